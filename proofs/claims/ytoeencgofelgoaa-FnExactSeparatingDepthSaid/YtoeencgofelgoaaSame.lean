/- The walks of FnExactSameView, FnExactAreTwins and FnExactSeparatingDepth. -/
import Derived.Test.YtoeencgofelgoaaJoin
namespace Go.Proofs.Ytoeencgofelgoaa
open Go Go.RowKit

theorem retc3 {P : Program} {fn : Func} {R : Value → World → Prop} {L : Env} {w : World} {t b off s s2 : Nat} {T : TypeId} {cs : List Value} {u u2 : Value} (hr : fn.results = #[.cell t T, .tmp s, .tmp s2]) (hv : lk L t = some (ptr b off)) (hs : structOf P T = true) {n : Nat} (hz : size? P T = some n)
    (hc : ∀ j (h : j < cs.length), w.cell? ⟨b, off + j, none⟩ = some cs[j]) (hn : cs.length = n) (hu : lk L s = some u) (hu2 : lk L s2 = some u2) (h : R (.tuple #[.agg cs.toArray, u, u2]) w) : bodyE P fn R .ret L w :=
  ⟨_, fun tmps ht => by
    subst hn
    have hl := run_loadCellsFrom (P := P) (w := w) b off cs 0 #[] (by simpa using hc)
    simp [results, hr, ht _ _ hv, ht _ _ hu, ht _ _ hu2, asAddr, loadVar, run_isAgg_struct hs, run_sizeOf hz, loadCells, hl], h⟩
theorem IsNet.mono {l r l' r' : Nat} {w : World} {h : NA} {m : Net} (x : IsNet l r w h m) (h1 : l' ≤ l) (h2 : r ≤ r') : IsNet l' r' w h m := ⟨x.ends.mono h1 h2, x.ids.mono h1 h2, x.inputs.mono h1 h2⟩
/-- If it went well: the networks beside each other, and the number of the second node. -/
def OkU (A B : Net) (x y : Int) (q : Bool) (l r : Nat) (w : World) (h : NA) (U : Net) : Prop := q = true → U = uni A B ∧ y = x + (A.ends.length : Int) ∧ IsNet l r w h (uni A B)
theorem OkU.ext {A B : Net} {x y : Int} {q : Bool} {l r : Nat} {w w' : World} {h : NA} {U : Net} (k : OkU A B x y q l r w h U) (e : Ext w w') : OkU A B x y q l r w' h U := fun hq => by obtain ⟨h1, h2, h3⟩ := k hq; exact ⟨h1, h2, h3.ext e⟩
theorem OkU.sto {A B : Net} {x y : Int} {q : Bool} {l r g : Nat} {w w' : World} {h : NA} {U : Net} {T : TypeId} {ds : List Value} (k : OkU A B x y q l r w h U) (e : Sto w w' g T ds) (hb : g < l ∨ r ≤ g) : OkU A B x y q l r w' h U := fun hq => by obtain ⟨h1, h2, h3⟩ := k hq; exact ⟨h1, h2, h3.sto e hb⟩
theorem vq_down {A B : Net} {v x : Int} (hu : VOk (uni A B)) (hv : v.toNat < A.ends.length) (hx : x.toNat < B.ends.length) {s : Nat} (h : VQ A B (s + 1) v x) : VQ A B s v x :=
  view_finer hu.ends s _ _ (by rw [uni_len]; omega) (by rw [uni_len]; omega) h
theorem tw_all {A B : Net} {v x : Int} (hu : VOk (uni A B)) (hv : v.toNat < A.ends.length) (hx : x.toNat < B.ends.length) (h : TW A B v x) : ∀ s, VQ A B s v x := by
  obtain ⟨T, hT, hq⟩ := h
  have hd : ∀ k, k ≤ T → VQ A B (T - k) v x := by
    intro k
    induction k with
    | zero => intro _; exact hq
    | succ k ih =>
      intro hk
      refine vq_down hu hv hx ?_
      rw [show T - (k + 1) + 1 = T - k by omega]
      exact ih (by omega)
  intro s
  by_cases h : s ≤ T
  · have := hd (T - s) (by omega)
    rwa [show T - (T - s) = s by omega] at this
  · unfold VQ; rw [hT.fix hu (show T ≤ s by omega)]; exact hq
theorem not_tw {A B : Net} {v x : Int} (hu : VOk (uni A B)) (h : ¬ TW A B v x) : ∃ T, StableAt (uni A B) T ∧ ¬ VQ A B T v x := by
  obtain ⟨T, hT⟩ := stable_ex hu
  exact ⟨T, hT, fun k => h ⟨T, hT, k⟩⟩
theorem vsucc {i : Nat} {P : Nat → Prop} (hJ : ∀ s, s < i → P s) (h : P i) : ∀ s, s < i + 1 → P s := fun s hs => by
  rcases Nat.lt_succ_iff_lt_or_eq.1 hs with h1 | h1
  · exact hJ s h1
  · subst h1; exact h

set_option maxRecDepth 100000 in
theorem viBoth_spec {loA hiA : Nat} (nA : NA) (A : Net) (v : Int) {loB hiB : Nat} (nB : NA) (B : Net) (x : Int) (w : World) (hA : IsNet loA hiA w nA A) (hhiA : hiA ≤ w.heap.size) (hnA : totN A ≤ 1048576) (hB : IsNet loB hiB w nB B) (hhiB : hiB ≤ w.heap.size) (hnB : totN B ≤ 1048576) :
    Fn Try.prog 33 #[netV nA A, VI v, netV nB B, VI x] w (fun o9 w' => ∃ h' U y q, o9 = .tuple #[netV h' U, VI y, VB q] ∧ (q = true ↔ N2 A B v x) ∧ OkU A B x y q w.heap.size w'.heap.size w' h' U ∧ Ext w w') := by
  have hqA := totL_len A.ends
  have hmA : totL A.ends + A.ids.length + A.inputs.length ≤ 1048576 := hnA
  have hqB := totL_len B.ends
  have hmB : totL B.ends + B.ids.length + B.inputs.length ≤ 1048576 := hnB
  have hE := Ext.refl w
  refine Fn_of Try.func33 rfl rfl (by kernel_rfl) rfl ?_
  refine W_seq ?_
  refine W_region ?_
  refine WL_m rfl (ev_box rfl) ?_
  rintro _ w4 ⟨rfl, hN4⟩
  have hz4 := hN4.size
  replace hE := hE.trans hN4.ext
  replace hA := hA.ext hN4.ext
  replace hB := hB.ext hN4.ext
  have hB4 : Blk w4 _ _ [_, _, _] := hN4.blk
  refine WL_m rfl (ev_box rfl) ?_
  rintro _ w6 ⟨rfl, hN6⟩
  have hz6 := hN6.size
  replace hE := hE.trans hN6.ext
  replace hA := hA.ext hN6.ext
  replace hB := hB.ext hN6.ext
  replace hB4 := hB4.ext hN6.ext
  have hB6 : Blk w6 _ _ [_, _, _] := hN6.blk
  refine WL_m rfl (ev_alloc zr31) ?_
  rintro _ w8 ⟨rfl, hN8⟩
  have hz8 := hN8.size
  replace hE := hE.trans hN8.ext
  replace hA := hA.ext hN8.ext
  replace hB := hB.ext hN8.ext
  replace hB4 := hB4.ext hN8.ext
  replace hB6 := hB6.ext hN8.ext
  have hB8 : Blk w8 _ _ [_, _, _] := hN8.blk
  refine WL_q rfl (ev_assign rfl) ?_
  refine WL_q rfl (ev_assign rfl) ?_
  refine WL_nil ?_
  refine thenE_n ?_
  refine W_seq ?_
  refine W_seq ?_
  refine W_region ?_
  refine WL_q rfl (ev_loads st31 sz31 rfl (cellsB hB4) rfl) ?_
  refine WL_q rfl (ev_move rfl) ?_
  refine WL_m rfl (ev_call rfl (neNode_spec _ A _ _ hA (by omega) (by omega))) ?_
  rintro _ w13 ⟨b13, rfl, hb13, hE13⟩
  have hz13 := hE13.size
  replace hE := hE.trans hE13
  replace hA := hA.ext hE13
  replace hB := hB.ext hE13
  replace hB4 := hB4.ext hE13
  replace hB6 := hB6.ext hE13
  replace hB8 := hB8.ext hE13
  refine WL_q rfl (ev_not rfl) ?_
  refine WL_q rfl (ev_move rfl) ?_
  refine WL_splitv (t := 15) rfl (fun hg14 => ?_) (fun hg14 => ?_)
  · have hg13 := not_true hg14
    have hp13 := ttN hb13 hg13
    refine WL_no rfl rfl hg14 rfl ?_
    refine WL_no rfl rfl hg14 rfl ?_
    refine WL_no rfl rfl hg14 rfl ?_
    refine WL_no rfl rfl hg14 rfl ?_
    refine WL_q rfl (ev_pick_t rfl hg14 rfl) ?_
    refine WL_nil ?_
    refine thenE_n ?_
    refine W_cond_t rfl ?_
    refine W_seq ?_
    refine W_region ?_
    refine WL_q rfl (ev_buildP0 sn31_3 zr31 ) ?_
    refine WL_s (ev_stores sz31 rfl rfl rfl (by simp [Value.oneCell']) hB8 (by simp)) ?_
    rintro _ w2_1 hS2_1
    have hz2_1 := hS2_1.size
    replace hE := hE.sto hS2_1 (by omega)
    replace hA := hA.sto hS2_1 (by omega)
    replace hB := hB.sto hS2_1 (by omega)
    replace hB4 := hB4.sto hS2_1 (by omega)
    replace hB6 := hB6.sto hS2_1 (by omega)
    replace hB8 : Blk w2_1 _ _ [_, _, _] := hS2_1.blk
    refine WL_q rfl (ev_assign rfl) ?_
    refine WL_q rfl (ev_assign rfl) ?_
    refine WL_nil ?_
    refine thenE_n ?_
    refine W_ret ?_
    refine thenE_r ?_
    refine retc3 rfl rfl st31 sz31 (cellsB hB8) rfl rfl rfl ?_
    first | (exact ⟨⟨none, 0, none, 0, none, 0⟩, ⟨[], [], []⟩, _, false, rfl, ffI fun h => hp13 ⟨h.1.1, h.2.1⟩, fun h => (tfX h.symm).elim, hE⟩) | (exact ⟨⟨none, 0, none, 0, none, 0⟩, ⟨[], [], []⟩, _, false, rfl, ffI fun h => hp18 ⟨h.1.2, h.2.2⟩, fun h => (tfX h.symm).elim, hE⟩) | (exact ⟨h24, uni A B, _, true, rfl, ttI ⟨⟨hp13.1, hp18.1⟩, hp13.2, hp18.2⟩, fun _ => ⟨rfl, rfl, hN24.mono (by omega) (by omega)⟩, hE⟩)
  · have hg13 := not_false hg14
    have hp13 := hb13.1 hg13
    refine WL_qg rfl rfl hg14 rfl (ev_loads st31 sz31 rfl (cellsB hB6) rfl) ?_
    refine WL_qg rfl rfl hg14 rfl (ev_move rfl) ?_
    refine WL_mg rfl rfl hg14 rfl (ev_call rfl (neNode_spec _ B _ _ hB (by omega) (by omega))) ?_
    rintro _ w18 ⟨b18, rfl, hb18, hE18⟩
    have hz18 := hE18.size
    replace hE := hE.trans hE18
    replace hA := hA.ext hE18
    replace hB := hB.ext hE18
    replace hB4 := hB4.ext hE18
    replace hB6 := hB6.ext hE18
    replace hB8 := hB8.ext hE18
    refine WL_qg rfl rfl hg14 rfl (ev_not rfl) ?_
    refine WL_q rfl (ev_pick_f rfl hg14 rfl) ?_
    refine WL_nil ?_
    refine thenE_n ?_
    refine W_cond rfl (fun hg19 => ?_) (fun hg19 => ?_)
    · have hg18 := not_true hg19
      have hp18 := ttN hb18 hg18
      refine W_seq ?_
      refine W_region ?_
      refine WL_q rfl (ev_buildP0 sn31_3 zr31 ) ?_
      refine WL_s (ev_stores sz31 rfl rfl rfl (by simp [Value.oneCell']) hB8 (by simp)) ?_
      rintro _ w2_1 hS2_1
      have hz2_1 := hS2_1.size
      replace hE := hE.sto hS2_1 (by omega)
      replace hA := hA.sto hS2_1 (by omega)
      replace hB := hB.sto hS2_1 (by omega)
      replace hB4 := hB4.sto hS2_1 (by omega)
      replace hB6 := hB6.sto hS2_1 (by omega)
      replace hB8 : Blk w2_1 _ _ [_, _, _] := hS2_1.blk
      refine WL_q rfl (ev_assign rfl) ?_
      refine WL_q rfl (ev_assign rfl) ?_
      refine WL_nil ?_
      refine thenE_n ?_
      refine W_ret ?_
      refine thenE_r ?_
      refine retc3 rfl rfl st31 sz31 (cellsB hB8) rfl rfl rfl ?_
      first | (exact ⟨⟨none, 0, none, 0, none, 0⟩, ⟨[], [], []⟩, _, false, rfl, ffI fun h => hp13 ⟨h.1.1, h.2.1⟩, fun h => (tfX h.symm).elim, hE⟩) | (exact ⟨⟨none, 0, none, 0, none, 0⟩, ⟨[], [], []⟩, _, false, rfl, ffI fun h => hp18 ⟨h.1.2, h.2.2⟩, fun h => (tfX h.symm).elim, hE⟩) | (exact ⟨h24, uni A B, _, true, rfl, ttI ⟨⟨hp13.1, hp18.1⟩, hp13.2, hp18.2⟩, fun _ => ⟨rfl, rfl, hN24.mono (by omega) (by omega)⟩, hE⟩)
    · have hg18 := not_false hg19
      have hp18 := hb18.1 hg18
      refine W_skip ?_
      refine thenE_n ?_
      refine W_seq ?_
      refine W_drawK (w6.heap.size) (fun w' => True) [(0, true), (1, true), (3, true), (4, true), (5, true), (6, true), (7, true), (2, false), (8, false), (9, true), (10, true)] mixed (by kernel_rfl) rfl (by kernel_rfl) (fun _ _ => trivial) ?_
      intro wd3 hEd3 hzd3
      replace hE := hE.trans hEd3
      replace hA := hA.ext hEd3
      replace hB := hB.ext hEd3
      replace hB4 := hB4.ext hEd3
      replace hB6 := hB6.ext hEd3
      replace hB8 := hB8.ext hEd3
      have hkA := hp13.1
      have hkB := hp18.1
      have hnA := hkA.nodes
      have hx8 := hp18.2.1
      have hx9 := hp18.2.2
      have hDd3 := KX.refl (w6.heap.size) wd3
      refine PW_q rfl rfl (fun wq hq => ev_loads st31 sz31 rfl (cellsB (hB4.kx hq.1 (by omega))) rfl) ?_
      refine PW_q rfl rfl (fun wq hq => ev_loads st31 sz31 rfl (cellsB (hB6.kx hq.1 (by omega))) rfl) ?_
      refine PW_q rfl rfl (fun wq hq => ev_move rfl) ?_
      refine PW_q rfl rfl (fun wq hq => ev_fieldAddr fo31_0 rfl) ?_
      refine PW_q rfl rfl (fun wq hq => ev_load one29 rfl ((hB4.kx hq.1 (by omega)).cell rfl)) ?_
      refine PW_q rfl rfl (fun wq hq => ev_len Try.underlying29 rfl) ?_
      refine PW_q rfl rfl (fun wq hq => ev_add rfl rfl (by omega)) ?_
      refine PW_m rfl rfl (ev_call rfl (neUnion_spec _ A _ B _ hA (by omega) (by omega) hB (by omega) (by omega) (by assumption) (by assumption))) ?_
      rintro _ w24 ⟨h24, rfl, hN24, hE24⟩
      have hz24 := hE24.size
      replace hE := hE.trans hE24
      replace hDd3 := hDd3.trans hE24
      replace hB8 := hB8.ext hE24
      refine ⟨⟨hDd3, trivial⟩, ?_⟩
      have hA_8 := hA.kx hDd3 (by omega)
      have hB_8 := hB.kx hDd3 (by omega)
      have hB4_8 := hB4.kx hDd3 (by omega)
      have hB6_8 := hB6.kx hDd3 (by omega)
      refine PW_s rfl (ev_stores sz31 rfl rfl rfl (by simp [Value.oneCell']) hB8 (by simp)) ?_
      rintro _ w3_8 hS3_8
      have hz3_8 := hS3_8.size
      replace hE := hE.sto hS3_8 (by omega)
      replace hDd3 := hDd3.sto hS3_8 (by omega)
      replace hN24 := hN24.sto hS3_8 (by omega)
      replace hB8 : Blk w3_8 _ _ [_, _, _] := hS3_8.blk
      refine ⟨⟨hDd3, trivial⟩, ?_⟩
      refine PW_q rfl rfl (fun wq hq => ev_assign rfl) ?_
      refine PW_q rfl rfl (fun wq hq => ev_assign rfl) ?_
      replace hA := hA.kx hDd3 (by omega)
      replace hB := hB.kx hDd3 (by omega)
      replace hB4 := hB4.kx hDd3 (by omega)
      replace hB6 := hB6.kx hDd3 (by omega)
      refine PW_nil ?_
      refine thenE_n ?_
      refine W_ret ?_
      refine retc3 rfl rfl st31 sz31 (cellsB hB8) rfl rfl rfl ?_
      first | (exact ⟨⟨none, 0, none, 0, none, 0⟩, ⟨[], [], []⟩, _, false, rfl, ffI fun h => hp13 ⟨h.1.1, h.2.1⟩, fun h => (tfX h.symm).elim, hE⟩) | (exact ⟨⟨none, 0, none, 0, none, 0⟩, ⟨[], [], []⟩, _, false, rfl, ffI fun h => hp18 ⟨h.1.2, h.2.2⟩, fun h => (tfX h.symm).elim, hE⟩) | (exact ⟨h24, uni A B, _, true, rfl, ttI ⟨⟨hp13.1, hp18.1⟩, hp13.2, hp18.2⟩, fun _ => ⟨rfl, rfl, hN24.mono (by omega) (by omega)⟩, hE⟩)

set_option maxRecDepth 100000 in
theorem sSameView_spec {loA hiA : Nat} (nA : NA) (A : Net) (v : Int) {loB hiB : Nat} (nB : NA) (B : Net) (x : Int) (t : Int) (w : World) (hA : IsNet loA hiA w nA A) (hhiA : hiA ≤ w.heap.size) (hnA : totN A ≤ 1048576) (hB : IsNet loB hiB w nB B) (hhiB : hiB ≤ w.heap.size) (hnB : totN B ≤ 1048576) :
    Fn Try.prog 11 #[netV nA A, VI v, netV nB B, VI x, VI t] w (fun o9 w' => ∃ b q, o9 = .tuple #[VB b, VB q] ∧ Two b q (N2 A B v x ∧ (0 ≤ t ∧ t ≤ 80)) (VQ A B t.toNat v x) ∧ Ext w w') := by
  have hqA := totL_len A.ends
  have hmA : totL A.ends + A.ids.length + A.inputs.length ≤ 1048576 := hnA
  have hqB := totL_len B.ends
  have hmB : totL B.ends + B.ids.length + B.inputs.length ≤ 1048576 := hnB
  have hE := Ext.refl w
  refine Fn_of Try.func11 rfl rfl (by kernel_rfl) rfl ?_
  refine W_seq ?_
  refine W_region ?_
  refine WL_m rfl (ev_box rfl) ?_
  rintro _ w5 ⟨rfl, hN5⟩
  have hz5 := hN5.size
  replace hE := hE.trans hN5.ext
  replace hA := hA.ext hN5.ext
  replace hB := hB.ext hN5.ext
  have hB5 : Blk w5 _ _ [_, _, _] := hN5.blk
  refine WL_m rfl (ev_box rfl) ?_
  rintro _ w7 ⟨rfl, hN7⟩
  have hz7 := hN7.size
  replace hE := hE.trans hN7.ext
  replace hA := hA.ext hN7.ext
  replace hB := hB.ext hN7.ext
  replace hB5 := hB5.ext hN7.ext
  have hB7 : Blk w7 _ _ [_, _, _] := hN7.blk
  refine WL_q rfl (ev_assign rfl) ?_
  refine WL_q rfl (ev_assign rfl) ?_
  refine WL_nil ?_
  refine thenE_n ?_
  refine W_seq ?_
  refine W_region ?_
  refine WL_q rfl (ev_loads st31 sz31 rfl (cellsB hB5) rfl) ?_
  refine WL_q rfl (ev_move rfl) ?_
  refine WL_q rfl (ev_loads st31 sz31 rfl (cellsB hB7) rfl) ?_
  refine WL_q rfl (ev_move rfl) ?_
  refine WL_m rfl (ev_call rfl (viBoth_spec _ A _ _ B _ _ hA (by omega) (by omega) hB (by omega) (by omega))) ?_
  rintro _ w21 ⟨h21, U21, y21, q21, rfl, hq21, hU21, hE21⟩
  have hz21 := hE21.size
  replace hE := hE.trans hE21
  replace hA := hA.ext hE21
  replace hB := hB.ext hE21
  replace hB5 := hB5.ext hE21
  replace hB7 := hB7.ext hE21
  refine WL_q rfl (ev_move rfl) ?_
  refine WL_q rfl (ev_extract rfl rfl) ?_
  refine WL_q rfl (ev_extract rfl rfl) ?_
  refine WL_q rfl (ev_extract rfl rfl) ?_
  refine WL_m rfl (ev_alloc zr31) ?_
  rintro _ w12 ⟨rfl, hN12⟩
  have hz12 := hN12.size
  replace hE := hE.trans hN12.ext
  replace hA := hA.ext hN12.ext
  replace hB := hB.ext hN12.ext
  replace hB5 := hB5.ext hN12.ext
  replace hB7 := hB7.ext hN12.ext
  replace hU21 := hU21.ext hN12.ext
  have hB12 : Blk w12 _ _ [_, _, _] := hN12.blk
  refine WL_s (ev_stores sz31 rfl rfl rfl (by simp [Value.oneCell']) hB12 (by simp)) ?_
  rintro _ w1_10 hS1_10
  have hz1_10 := hS1_10.size
  replace hE := hE.sto hS1_10 (by omega)
  replace hA := hA.sto hS1_10 (by omega)
  replace hB := hB.sto hS1_10 (by omega)
  replace hB5 := hB5.sto hS1_10 (by omega)
  replace hB7 := hB7.sto hS1_10 (by omega)
  replace hU21 := hU21.sto hS1_10 (by omega)
  replace hB12 : Blk w1_10 _ _ [_, _, _] := hS1_10.blk
  refine WL_q rfl (ev_assign rfl) ?_
  refine WL_q rfl (ev_assign rfl) ?_
  refine WL_nil ?_
  refine thenE_n ?_
  refine W_seq ?_
  refine W_seq ?_
  refine W_region ?_
  refine WL_q rfl (ev_move rfl) ?_
  refine WL_q rfl (ev_not rfl) ?_
  refine WL_q rfl (ev_move rfl) ?_
  refine WL_splitv (t := 27) rfl (fun hg26 => ?_) (fun hg26 => ?_)
  · have hg24 := not_true hg26
    refine WL_no rfl rfl hg26 rfl ?_
    refine WL_no rfl rfl hg26 rfl ?_
    refine WL_no rfl rfl hg26 rfl ?_
    refine WL_q rfl (ev_pick_t rfl hg26 rfl) ?_
    refine WL_nil ?_
    refine thenE_n ?_
    refine W_cond_t rfl ?_
    refine W_seq ?_
    refine W_region ?_
    refine WL_q rfl (ev_assign rfl) ?_
    refine WL_q rfl (ev_assign rfl) ?_
    refine WL_nil ?_
    refine thenE_n ?_
    refine W_ret ?_
    refine thenE_r ?_
    refine ret2 rfl rfl rfl ?_
    first | (exact ⟨_, _, rfl, .no fun h => hp29 h.2, hE⟩) | (refine ⟨_, _, rfl, .no fun h => ?_, hE⟩; have := hq21.2 h.1; simp_all; done) | (refine ⟨_, _, rfl, .yes ⟨hn2, hp29⟩ ?_, hE⟩; rw [decide_eq_true_iff]; exact vq_iff _ _ (by omega))
  · have hg24 := not_false hg26
    refine WL_qg rfl rfl hg26 rfl (ev_move rfl) ?_
    refine WL_mg rfl rfl hg26 rfl (ev_call rfl (viDepth_spec _ _)) ?_
    rintro _ _ ⟨rfl, rfl⟩
    refine WL_qg rfl rfl hg26 rfl (ev_not rfl) ?_
    refine WL_q rfl (ev_pick_f rfl hg26 rfl) ?_
    refine WL_nil ?_
    refine thenE_n ?_
    refine W_cond rfl (fun hg30 => ?_) (fun hg30 => ?_)
    · have hg29 := not_true hg30
      have hp29 := inR_false.1 hg29
      refine W_seq ?_
      refine W_region ?_
      refine WL_q rfl (ev_assign rfl) ?_
      refine WL_q rfl (ev_assign rfl) ?_
      refine WL_nil ?_
      refine thenE_n ?_
      refine W_ret ?_
      refine thenE_r ?_
      refine ret2 rfl rfl rfl ?_
      first | (exact ⟨_, _, rfl, .no fun h => hp29 h.2, hE⟩) | (refine ⟨_, _, rfl, .no fun h => ?_, hE⟩; have := hq21.2 h.1; simp_all; done) | (refine ⟨_, _, rfl, .yes ⟨hn2, hp29⟩ ?_, hE⟩; rw [decide_eq_true_iff]; exact vq_iff _ _ (by omega))
    · have hg29 := not_false hg30
      have hp29 := inR_true.1 hg29
      refine W_skip ?_
      refine thenE_n ?_
      refine W_seq ?_
      refine W_region ?_
      have hok : q21 = true := by first | assumption | simp_all
      have hn2 := hq21.1 hok
      obtain ⟨⟨hkA, hkB⟩, hnv, hnx⟩ := (id hn2)
      have hnv1 := hnv.1
      have hnv2 := hnv.2
      have hnx1 := hnx.1
      have hnx2 := hnx.2
      have hndA := hkA.nodes
      have hndB := hkB.nodes
      have hu := uni_vok hkA hkB
      have huT := uni_tot hkA hkB
      have hupos := hu.pos
      have hul := uni_len A B
      obtain ⟨hUe, hye, hNu⟩ := hU21 hok
      subst hUe
      subst hye
      have hwl := vw_len (uni A B) t.toNat
      refine WL_q rfl (ev_loads st31 sz31 rfl (cellsB hB12) rfl) ?_
      refine WL_q rfl (ev_move rfl) ?_
      refine WL_m rfl (ev_call rfl (viClasses_spec _ (uni A B) _ _ hNu (by omega) (by omega) (by assumption) (by omega))) ?_
      rintro _ w34 ⟨a34, c34, rfl, hO34, hE34⟩
      have hz34 := hE34.size
      replace hE := hE.trans hE34
      replace hA := hA.ext hE34
      replace hB := hB.ext hE34
      replace hB5 := hB5.ext hE34
      replace hB7 := hB7.ext hE34
      replace hU21 := hU21.ext hE34
      replace hB12 := hB12.ext hE34
      replace hNu := hNu.ext hE34
      refine WL_q rfl (ev_assign rfl) ?_
      refine WL_nil ?_
      refine thenE_n ?_
      refine W_seq ?_
      refine W_drawE [(0, true), (1, true), (2, true), (3, true), (4, true), (5, true), (6, true), (7, true), (8, true), (9, true), (10, true)] mixed (by kernel_rfl) rfl (by kernel_rfl) ?_
      intro wd5 hEd5 hzd5
      replace hE := hE.trans hEd5
      replace hA := hA.ext hEd5
      replace hB := hB.ext hEd5
      replace hB5 := hB5.ext hEd5
      replace hB7 := hB7.ext hEd5
      replace hU21 := hU21.ext hEd5
      replace hB12 := hB12.ext hEd5
      replace hNu := hNu.ext hEd5
      replace hO34 := hO34.ext hEd5
      have hDd5 := Ext.refl wd5
      refine PW_q rfl rfl (fun wq hq => ev_move rfl) ?_
      refine PW_q rfl rfl (fun wq hq => ev_move rfl) ?_
      refine PW_q rfl rfl (fun wq hq => ev_indexAddr Try.underlying23 sz3 rfl rfl ((own_i hO34).isSome (by omega)) (by omega) (by omega)) ?_
      have hc38 := (own_i hO34).cell (i := v.toNat) (by omega)
      refine PW_q rfl rfl (fun wq hq => ev_load one3 rfl (hq.cell (hc38))) ?_
      refine PW_q rfl rfl (fun wq hq => ev_move rfl) ?_
      refine PW_q rfl rfl (fun wq hq => ev_move rfl) ?_
      refine PW_q rfl rfl (fun wq hq => ev_indexAddr Try.underlying23 sz3 rfl rfl ((own_i hO34).isSome (by omega)) (by omega) (by omega)) ?_
      have hc42 := (own_i hO34).cell (i := ((x + (A.ends.length : Int))).toNat) (by omega)
      refine PW_q rfl rfl (fun wq hq => ev_load one3 rfl (hq.cell (hc42))) ?_
      refine PW_q rfl rfl (fun wq hq => ev_eql rfl rfl) ?_
      refine PW_q rfl rfl (fun wq hq => ev_assign rfl) ?_
      refine PW_q rfl rfl (fun wq hq => ev_assign rfl) ?_
      refine PW_nil ?_
      refine thenE_n ?_
      refine W_ret ?_
      refine ret2 rfl rfl rfl ?_
      first | (exact ⟨_, _, rfl, .no fun h => hp29 h.2, hE⟩) | (refine ⟨_, _, rfl, .no fun h => ?_, hE⟩; have := hq21.2 h.1; simp_all; done) | (refine ⟨_, _, rfl, .yes ⟨hn2, hp29⟩ ?_, hE⟩; rw [decide_eq_true_iff]; exact vq_iff _ _ (by omega))

set_option maxRecDepth 100000 in
theorem sAreTwins_spec {loA hiA : Nat} (nA : NA) (A : Net) (v : Int) {loB hiB : Nat} (nB : NA) (B : Net) (x : Int) (w : World) (hA : IsNet loA hiA w nA A) (hhiA : hiA ≤ w.heap.size) (hnA : totN A ≤ 1048576) (hB : IsNet loB hiB w nB B) (hhiB : hiB ≤ w.heap.size) (hnB : totN B ≤ 1048576) :
    Fn Try.prog 15 #[netV nA A, VI v, netV nB B, VI x] w (fun o9 w' => ∃ b q, o9 = .tuple #[VB b, VB q] ∧ Two b q (N2 A B v x) (TW A B v x) ∧ Ext w w') := by
  have hqA := totL_len A.ends
  have hmA : totL A.ends + A.ids.length + A.inputs.length ≤ 1048576 := hnA
  have hqB := totL_len B.ends
  have hmB : totL B.ends + B.ids.length + B.inputs.length ≤ 1048576 := hnB
  have hE := Ext.refl w
  refine Fn_of Try.func15 rfl rfl (by kernel_rfl) rfl ?_
  refine W_seq ?_
  refine W_region ?_
  refine WL_m rfl (ev_box rfl) ?_
  rintro _ w4 ⟨rfl, hN4⟩
  have hz4 := hN4.size
  replace hE := hE.trans hN4.ext
  replace hA := hA.ext hN4.ext
  replace hB := hB.ext hN4.ext
  have hB4 : Blk w4 _ _ [_, _, _] := hN4.blk
  refine WL_m rfl (ev_box rfl) ?_
  rintro _ w6 ⟨rfl, hN6⟩
  have hz6 := hN6.size
  replace hE := hE.trans hN6.ext
  replace hA := hA.ext hN6.ext
  replace hB := hB.ext hN6.ext
  replace hB4 := hB4.ext hN6.ext
  have hB6 : Blk w6 _ _ [_, _, _] := hN6.blk
  refine WL_q rfl (ev_assign rfl) ?_
  refine WL_q rfl (ev_assign rfl) ?_
  refine WL_nil ?_
  refine thenE_n ?_
  refine W_seq ?_
  refine W_region ?_
  refine WL_q rfl (ev_loads st31 sz31 rfl (cellsB hB4) rfl) ?_
  refine WL_q rfl (ev_move rfl) ?_
  refine WL_q rfl (ev_loads st31 sz31 rfl (cellsB hB6) rfl) ?_
  refine WL_q rfl (ev_move rfl) ?_
  refine WL_m rfl (ev_call rfl (viBoth_spec _ A _ _ B _ _ hA (by omega) (by omega) hB (by omega) (by omega))) ?_
  rintro _ w19 ⟨h19, U19, y19, q19, rfl, hq19, hU19, hE19⟩
  have hz19 := hE19.size
  replace hE := hE.trans hE19
  replace hA := hA.ext hE19
  replace hB := hB.ext hE19
  replace hB4 := hB4.ext hE19
  replace hB6 := hB6.ext hE19
  refine WL_q rfl (ev_move rfl) ?_
  refine WL_q rfl (ev_extract rfl rfl) ?_
  refine WL_q rfl (ev_extract rfl rfl) ?_
  refine WL_q rfl (ev_extract rfl rfl) ?_
  refine WL_m rfl (ev_alloc zr31) ?_
  rintro _ w10 ⟨rfl, hN10⟩
  have hz10 := hN10.size
  replace hE := hE.trans hN10.ext
  replace hA := hA.ext hN10.ext
  replace hB := hB.ext hN10.ext
  replace hB4 := hB4.ext hN10.ext
  replace hB6 := hB6.ext hN10.ext
  replace hU19 := hU19.ext hN10.ext
  have hB10 : Blk w10 _ _ [_, _, _] := hN10.blk
  refine WL_s (ev_stores sz31 rfl rfl rfl (by simp [Value.oneCell']) hB10 (by simp)) ?_
  rintro _ w1_10 hS1_10
  have hz1_10 := hS1_10.size
  replace hE := hE.sto hS1_10 (by omega)
  replace hA := hA.sto hS1_10 (by omega)
  replace hB := hB.sto hS1_10 (by omega)
  replace hB4 := hB4.sto hS1_10 (by omega)
  replace hB6 := hB6.sto hS1_10 (by omega)
  replace hU19 := hU19.sto hS1_10 (by omega)
  replace hB10 : Blk w1_10 _ _ [_, _, _] := hS1_10.blk
  refine WL_q rfl (ev_assign rfl) ?_
  refine WL_q rfl (ev_assign rfl) ?_
  refine WL_nil ?_
  refine thenE_n ?_
  refine W_seq ?_
  refine W_seq ?_
  refine W_region ?_
  refine WL_q rfl (ev_move rfl) ?_
  refine WL_q rfl (ev_not rfl) ?_
  refine WL_nil ?_
  refine thenE_n ?_
  refine W_cond rfl (fun hg24 => ?_) (fun hg24 => ?_)
  · have hg22 := not_true hg24
    refine W_seq ?_
    refine W_region ?_
    refine WL_q rfl (ev_assign rfl) ?_
    refine WL_q rfl (ev_assign rfl) ?_
    refine WL_nil ?_
    refine thenE_n ?_
    refine W_ret ?_
    refine thenE_r ?_
    refine ret2 rfl rfl rfl ?_
    first | (refine ⟨_, _, rfl, .no fun h => ?_, hE⟩; have := hq19.2 h; simp_all; done) | (refine ⟨_, _, rfl, .yes hn2 ?_, hE⟩; rw [decide_eq_true_iff, tw_iff hs26]; exact vq_iff _ _ (by omega))
  · have hg22 := not_false hg24
    refine W_skip ?_
    refine thenE_n ?_
    refine W_seq ?_
    refine W_region ?_
    have hok : q19 = true := by first | assumption | simp_all
    have hn2 := hq19.1 hok
    obtain ⟨⟨hkA, hkB⟩, hnv, hnx⟩ := (id hn2)
    have hnv1 := hnv.1
    have hnv2 := hnv.2
    have hnx1 := hnx.1
    have hnx2 := hnx.2
    have hndA := hkA.nodes
    have hndB := hkB.nodes
    have hu := uni_vok hkA hkB
    have huT := uni_tot hkA hkB
    have hupos := hu.pos
    have hul := uni_len A B
    obtain ⟨hUe, hye, hNu⟩ := hU19 hok
    subst hUe
    subst hye
    refine WL_q rfl (ev_loads st31 sz31 rfl (cellsB hB10) rfl) ?_
    refine WL_m rfl (ev_call rfl (viTwins_spec _ (uni A B) _ hNu (by omega) (by omega) (by assumption))) ?_
    rintro _ w26 ⟨T26, a26, c26, rfl, hs26, hO26, hE26⟩
    have hz26 := hE26.size
    replace hE := hE.trans hE26
    replace hA := hA.ext hE26
    replace hB := hB.ext hE26
    replace hB4 := hB4.ext hE26
    replace hB6 := hB6.ext hE26
    replace hU19 := hU19.ext hE26
    replace hB10 := hB10.ext hE26
    replace hNu := hNu.ext hE26
    refine WL_q rfl (ev_assign rfl) ?_
    refine WL_nil ?_
    refine thenE_n ?_
    refine W_seq ?_
    refine W_drawE [(0, true), (1, true), (2, true), (3, true), (4, true), (5, true), (6, true), (7, true), (8, true), (9, true), (10, true)] mixed (by kernel_rfl) rfl (by kernel_rfl) ?_
    intro wd5 hEd5 hzd5
    replace hE := hE.trans hEd5
    replace hA := hA.ext hEd5
    replace hB := hB.ext hEd5
    replace hB4 := hB4.ext hEd5
    replace hB6 := hB6.ext hEd5
    replace hU19 := hU19.ext hEd5
    replace hB10 := hB10.ext hEd5
    replace hNu := hNu.ext hEd5
    replace hO26 := hO26.ext hEd5
    have hDd5 := Ext.refl wd5
    have hwl := vw_len (uni A B) T26
    refine PW_q rfl rfl (fun wq hq => ev_move rfl) ?_
    refine PW_q rfl rfl (fun wq hq => ev_move rfl) ?_
    refine PW_q rfl rfl (fun wq hq => ev_indexAddr Try.underlying23 sz3 rfl rfl ((own_i hO26).isSome (by omega)) (by omega) (by omega)) ?_
    have hc30 := (own_i hO26).cell (i := v.toNat) (by omega)
    refine PW_q rfl rfl (fun wq hq => ev_load one3 rfl (hq.cell (hc30))) ?_
    refine PW_q rfl rfl (fun wq hq => ev_move rfl) ?_
    refine PW_q rfl rfl (fun wq hq => ev_move rfl) ?_
    refine PW_q rfl rfl (fun wq hq => ev_indexAddr Try.underlying23 sz3 rfl rfl ((own_i hO26).isSome (by omega)) (by omega) (by omega)) ?_
    have hc34 := (own_i hO26).cell (i := ((x + (A.ends.length : Int))).toNat) (by omega)
    refine PW_q rfl rfl (fun wq hq => ev_load one3 rfl (hq.cell (hc34))) ?_
    refine PW_q rfl rfl (fun wq hq => ev_eql rfl rfl) ?_
    refine PW_q rfl rfl (fun wq hq => ev_assign rfl) ?_
    refine PW_q rfl rfl (fun wq hq => ev_assign rfl) ?_
    refine PW_nil ?_
    refine thenE_n ?_
    refine W_ret ?_
    refine ret2 rfl rfl rfl ?_
    first | (refine ⟨_, _, rfl, .no fun h => ?_, hE⟩; have := hq19.2 h; simp_all; done) | (refine ⟨_, _, rfl, .yes hn2 ?_, hE⟩; rw [decide_eq_true_iff, tw_iff hs26]; exact vq_iff _ _ (by omega))

set_option maxRecDepth 100000 in
theorem AreTwins_spec {loA hiA : Nat} (nA : NA) (A : Net) (v : Int) {loB hiB : Nat} (nB : NA) (B : Net) (x : Int) (w : World) (hA : IsNet loA hiA w nA A) (hhiA : hiA ≤ w.heap.size) (hnA : totN A ≤ 1048576) (hB : IsNet loB hiB w nB B) (hhiB : hiB ≤ w.heap.size) (hnB : totN B ≤ 1048576) :
    Fn Try.prog 16 #[netV nA A, VI v, netV nB B, VI x] w (fun o9 w' => ∃ b q, o9 = .tuple #[VB b, VB q] ∧ Two b q (N2 A B v x) (TW A B v x) ∧ Ext w w') := by
  have hqA := totL_len A.ends
  have hmA : totL A.ends + A.ids.length + A.inputs.length ≤ 1048576 := hnA
  have hqB := totL_len B.ends
  have hmB : totL B.ends + B.ids.length + B.inputs.length ≤ 1048576 := hnB
  have hE := Ext.refl w
  refine Fn_of Try.func16 rfl rfl (by kernel_rfl) rfl ?_
  refine W_seq ?_
  refine W_region ?_
  refine WL_m rfl (ev_box rfl) ?_
  rintro _ w4 ⟨rfl, hN4⟩
  have hz4 := hN4.size
  replace hE := hE.trans hN4.ext
  replace hA := hA.ext hN4.ext
  replace hB := hB.ext hN4.ext
  have hB4 : Blk w4 _ _ [_, _, _] := hN4.blk
  refine WL_m rfl (ev_box rfl) ?_
  rintro _ w6 ⟨rfl, hN6⟩
  have hz6 := hN6.size
  replace hE := hE.trans hN6.ext
  replace hA := hA.ext hN6.ext
  replace hB := hB.ext hN6.ext
  replace hB4 := hB4.ext hN6.ext
  have hB6 : Blk w6 _ _ [_, _, _] := hN6.blk
  refine WL_q rfl (ev_assign rfl) ?_
  refine WL_q rfl (ev_assign rfl) ?_
  refine WL_nil ?_
  refine thenE_n ?_
  refine W_seq ?_
  refine W_seq ?_
  refine W_region ?_
  refine WL_q rfl (ev_loads st31 sz31 rfl (cellsB hB4) rfl) ?_
  refine WL_q rfl (ev_move rfl) ?_
  refine WL_q rfl (ev_loads st31 sz31 rfl (cellsB hB6) rfl) ?_
  refine WL_q rfl (ev_move rfl) ?_
  refine WL_m rfl (ev_call rfl (nodesOk_spec _ A _ _ B _ _ hA (by omega) (by omega) hB (by omega) (by omega))) ?_
  rintro _ w16 ⟨b16, rfl, hb16, hE16⟩
  have hz16 := hE16.size
  replace hE := hE.trans hE16
  replace hA := hA.ext hE16
  replace hB := hB.ext hE16
  replace hB4 := hB4.ext hE16
  replace hB6 := hB6.ext hE16
  refine WL_q rfl (ev_not rfl) ?_
  refine WL_nil ?_
  refine thenE_n ?_
  refine W_cond rfl (fun hg17 => ?_) (fun hg17 => ?_)
  · have hg16 := not_true hg17
    have hp16 := ttN hb16 hg16
    refine W_seq ?_
    refine W_region ?_
    refine WL_q rfl (ev_assign rfl) ?_
    refine WL_q rfl (ev_assign rfl) ?_
    refine WL_nil ?_
    refine thenE_n ?_
    refine W_ret ?_
    refine thenE_r ?_
    refine ret2 rfl rfl rfl ?_
    first | (exact ⟨_, _, rfl, .no fun h => hp16 h, hE⟩) | (refine ⟨_, _, rfl, .yes hp16 ?_, hE⟩; rw [decide_eq_true_iff, tw_iff hs22]; exact vq_iff _ _ (by omega))
  · have hg16 := not_false hg17
    have hp16 := hb16.1 hg16
    refine W_skip ?_
    refine thenE_n ?_
    refine W_seq ?_
    refine W_region ?_
    obtain ⟨⟨hkA, hkB⟩, hnv, hnx⟩ := (id hp16)
    have hnv1 := hnv.1
    have hnv2 := hnv.2
    have hnx1 := hnx.1
    have hnx2 := hnx.2
    have hndA := hkA.nodes
    have hndB := hkB.nodes
    have hu := uni_vok hkA hkB
    have huT := uni_tot hkA hkB
    have hupos := hu.pos
    have hul := uni_len A B
    refine WL_q rfl (ev_loads st31 sz31 rfl (cellsB hB4) rfl) ?_
    refine WL_q rfl (ev_loads st31 sz31 rfl (cellsB hB6) rfl) ?_
    refine WL_m rfl (ev_call rfl (joined_spec _ A _ B _ hA (by omega) (by omega) hB (by omega) (by omega) (by assumption) (by assumption))) ?_
    rintro _ w21 ⟨h21, rfl, hN21, hE21⟩
    have hz21 := hE21.size
    replace hE := hE.trans hE21
    replace hA := hA.ext hE21
    replace hB := hB.ext hE21
    replace hB4 := hB4.ext hE21
    replace hB6 := hB6.ext hE21
    refine WL_m rfl (ev_call rfl (stable_spec _ (uni A B) _ hN21 (by omega) (by omega) (by assumption))) ?_
    rintro _ w22 ⟨T22, a22, c22, rfl, hs22, hO22, hE22⟩
    have hz22 := hE22.size
    replace hE := hE.trans hE22
    replace hA := hA.ext hE22
    replace hB := hB.ext hE22
    replace hB4 := hB4.ext hE22
    replace hB6 := hB6.ext hE22
    replace hN21 := hN21.ext hE22
    refine WL_q rfl (ev_move rfl) ?_
    refine WL_q rfl (ev_extract rfl rfl) ?_
    refine WL_q rfl (ev_extract rfl rfl) ?_
    refine WL_q rfl (ev_assign rfl) ?_
    refine WL_q rfl (ev_assign rfl) ?_
    refine WL_nil ?_
    refine thenE_n ?_
    refine W_seq ?_
    refine W_drawE [(0, true), (1, true), (2, true), (3, true), (4, true), (5, true), (6, true), (7, true), (8, true), (9, true), (10, true), (11, true), (12, true), (13, true), (14, true)] mixed (by kernel_rfl) rfl (by kernel_rfl) ?_
    intro wd4 hEd4 hzd4
    replace hE := hE.trans hEd4
    replace hA := hA.ext hEd4
    replace hB := hB.ext hEd4
    replace hB4 := hB4.ext hEd4
    replace hB6 := hB6.ext hEd4
    replace hN21 := hN21.ext hEd4
    replace hO22 := hO22.ext hEd4
    have hDd4 := Ext.refl wd4
    have hwl := vw_len (uni A B) T22
    refine PW_q rfl rfl (fun wq hq => ev_move rfl) ?_
    refine PW_q rfl rfl (fun wq hq => ev_move rfl) ?_
    refine PW_q rfl rfl (fun wq hq => ev_indexAddr Try.underlying23 sz3 rfl rfl ((own_i hO22).isSome (by omega)) (by omega) (by omega)) ?_
    have hc28 := (own_i hO22).cell (i := v.toNat) (by omega)
    refine PW_q rfl rfl (fun wq hq => ev_load one3 rfl (hq.cell (hc28))) ?_
    refine PW_q rfl rfl (fun wq hq => ev_move rfl) ?_
    refine PW_q rfl rfl (fun wq hq => ev_fieldAddr fo31_0 rfl) ?_
    refine PW_q rfl rfl (fun wq hq => ev_load one29 rfl (hq.cell (hB4.cell rfl))) ?_
    refine PW_q rfl rfl (fun wq hq => ev_len Try.underlying29 rfl) ?_
    refine PW_q rfl rfl (fun wq hq => ev_move rfl) ?_
    refine PW_q rfl rfl (fun wq hq => ev_add rfl rfl (by omega)) ?_
    refine PW_q rfl rfl (fun wq hq => ev_indexAddr Try.underlying23 sz3 rfl rfl ((own_i hO22).isSome (by omega)) (by omega) (by omega)) ?_
    have hc36 := (own_i hO22).cell (i := (((A.ends.length : Int) + x)).toNat) (by omega)
    refine PW_q rfl rfl (fun wq hq => ev_load one3 rfl (hq.cell (hc36))) ?_
    refine PW_q rfl rfl (fun wq hq => ev_eql rfl rfl) ?_
    refine PW_q rfl rfl (fun wq hq => ev_assign rfl) ?_
    refine PW_q rfl rfl (fun wq hq => ev_assign rfl) ?_
    refine PW_nil ?_
    refine thenE_n ?_
    refine W_ret ?_
    refine ret2 rfl rfl rfl ?_
    first | (exact ⟨_, _, rfl, .no fun h => hp16 h, hE⟩) | (refine ⟨_, _, rfl, .yes hp16 ?_, hE⟩; rw [decide_eq_true_iff, tw_iff hs22]; exact vq_iff _ _ (by omega))

set_option maxHeartbeats 4000000 in
set_option maxRecDepth 100000 in
theorem sSepDepth_spec {loA hiA : Nat} (nA : NA) (A : Net) (v : Int) {loB hiB : Nat} (nB : NA) (B : Net) (x : Int) (w : World) (hA : IsNet loA hiA w nA A) (hhiA : hiA ≤ w.heap.size) (hnA : totN A ≤ 1048576) (hB : IsNet loB hiB w nB B) (hhiB : hiB ≤ w.heap.size) (hnB : totN B ≤ 1048576) :
    Fn Try.prog 17 #[netV nA A, VI v, netV nB B, VI x] w (fun o9 w' => ∃ r q, o9 = .tuple #[VI r, VB q] ∧ LeastR (N2 A B v x) (fun s => VQ A B s v x) r q ∧ Ext w w') := by
  have hqA := totL_len A.ends
  have hmA : totL A.ends + A.ids.length + A.inputs.length ≤ 1048576 := hnA
  have hqB := totL_len B.ends
  have hmB : totL B.ends + B.ids.length + B.inputs.length ≤ 1048576 := hnB
  have hE := Ext.refl w
  refine Fn_of Try.func17 rfl rfl (by kernel_rfl) rfl ?_
  refine W_seq ?_
  refine W_region ?_
  refine WL_m rfl (ev_box rfl) ?_
  rintro _ w4 ⟨rfl, hN4⟩
  have hz4 := hN4.size
  replace hE := hE.trans hN4.ext
  replace hA := hA.ext hN4.ext
  replace hB := hB.ext hN4.ext
  have hB4 : Blk w4 _ _ [_, _, _] := hN4.blk
  refine WL_m rfl (ev_box rfl) ?_
  rintro _ w6 ⟨rfl, hN6⟩
  have hz6 := hN6.size
  replace hE := hE.trans hN6.ext
  replace hA := hA.ext hN6.ext
  replace hB := hB.ext hN6.ext
  replace hB4 := hB4.ext hN6.ext
  have hB6 : Blk w6 _ _ [_, _, _] := hN6.blk
  refine WL_q rfl (ev_assign rfl) ?_
  refine WL_q rfl (ev_assign rfl) ?_
  refine WL_nil ?_
  refine thenE_n ?_
  refine W_seq ?_
  refine W_region ?_
  refine WL_q rfl (ev_loads st31 sz31 rfl (cellsB hB4) rfl) ?_
  refine WL_q rfl (ev_move rfl) ?_
  refine WL_q rfl (ev_loads st31 sz31 rfl (cellsB hB6) rfl) ?_
  refine WL_q rfl (ev_move rfl) ?_
  refine WL_m rfl (ev_call rfl (viBoth_spec _ A _ _ B _ _ hA (by omega) (by omega) hB (by omega) (by omega))) ?_
  rintro _ w20 ⟨h20, U20, y20, q20, rfl, hq20, hU20, hE20⟩
  have hz20 := hE20.size
  replace hE := hE.trans hE20
  replace hA := hA.ext hE20
  replace hB := hB.ext hE20
  replace hB4 := hB4.ext hE20
  replace hB6 := hB6.ext hE20
  refine WL_q rfl (ev_move rfl) ?_
  refine WL_q rfl (ev_extract rfl rfl) ?_
  refine WL_q rfl (ev_extract rfl rfl) ?_
  refine WL_q rfl (ev_extract rfl rfl) ?_
  refine WL_m rfl (ev_alloc zr31) ?_
  rintro _ w10 ⟨rfl, hN10⟩
  have hz10 := hN10.size
  replace hE := hE.trans hN10.ext
  replace hA := hA.ext hN10.ext
  replace hB := hB.ext hN10.ext
  replace hB4 := hB4.ext hN10.ext
  replace hB6 := hB6.ext hN10.ext
  replace hU20 := hU20.ext hN10.ext
  have hB10 : Blk w10 _ _ [_, _, _] := hN10.blk
  refine WL_s (ev_stores sz31 rfl rfl rfl (by simp [Value.oneCell']) hB10 (by simp)) ?_
  rintro _ w1_10 hS1_10
  have hz1_10 := hS1_10.size
  replace hE := hE.sto hS1_10 (by omega)
  replace hA := hA.sto hS1_10 (by omega)
  replace hB := hB.sto hS1_10 (by omega)
  replace hB4 := hB4.sto hS1_10 (by omega)
  replace hB6 := hB6.sto hS1_10 (by omega)
  replace hU20 := hU20.sto hS1_10 (by omega)
  replace hB10 : Blk w1_10 _ _ [_, _, _] := hS1_10.blk
  refine WL_q rfl (ev_assign rfl) ?_
  refine WL_q rfl (ev_assign rfl) ?_
  refine WL_nil ?_
  refine thenE_n ?_
  refine W_seq ?_
  refine W_seq ?_
  refine W_region ?_
  refine WL_q rfl (ev_move rfl) ?_
  refine WL_q rfl (ev_not rfl) ?_
  refine WL_nil ?_
  refine thenE_n ?_
  refine W_cond rfl (fun hg25 => ?_) (fun hg25 => ?_)
  · have hg23 := not_true hg25
    refine W_seq ?_
    refine W_region ?_
    refine WL_q rfl (ev_assign rfl) ?_
    refine WL_q rfl (ev_assign rfl) ?_
    refine WL_nil ?_
    refine thenE_n ?_
    refine W_ret ?_
    refine thenE_r ?_
    refine ret2 rfl rfl rfl ?_
    first | (refine ⟨_, _, rfl, .inr ⟨rfl, rfl, fun h => ?_⟩, hE⟩; have := hq20.2 h.1; simp_all; done) | (refine ⟨_, _, rfl, .inl ⟨rfl, hn2, by omega, fun h => hp43 ?_, fun s hs => hJ s (by omega)⟩, hE⟩; exact (vq_iff (X := vw (uni A B) i) (i := v.toNat) (j := (x + (A.ends.length : Int)).toNat) (k := A.ends.length + x.toNat) (by omega) (by omega) (by omega)).2 (by simpa [VQ] using h)) | (refine ⟨_, _, rfl, .inr ⟨rfl, rfl, fun h => ?_⟩, hE⟩; obtain ⟨_, s, hs⟩ := h; exact hs (vq_all hu hT0 (by omega) hJ s))
  · have hg23 := not_false hg25
    refine W_skip ?_
    refine thenE_n ?_
    refine W_seq ?_
    refine W_seq ?_
    refine W_region ?_
    have hok : q20 = true := by first | assumption | simp_all
    have hn2 := hq20.1 hok
    obtain ⟨⟨hkA, hkB⟩, hnv, hnx⟩ := (id hn2)
    have hnv1 := hnv.1
    have hnv2 := hnv.2
    have hnx1 := hnx.1
    have hnx2 := hnx.2
    have hndA := hkA.nodes
    have hndB := hkB.nodes
    have hu := uni_vok hkA hkB
    have huT := uni_tot hkA hkB
    have hupos := hu.pos
    have hul := uni_len A B
    obtain ⟨hUe, hye, hNu⟩ := hU20 hok
    subst hUe
    subst hye
    obtain ⟨T0, hT0⟩ := stable_ex hu
    have hT0l := hT0.le
    refine WL_q rfl (ev_assign rfl) ?_
    refine WL_nil ?_
    refine thenE_n ?_
    refine W_block ?_
    refine W_loopC (G := Nat) [(1, _), (10, _), (11, _)] ((Subs.c rfl (Subs.c rfl (Subs.c rfl Subs.n)))) (fun i => [(13, VI (i : Int))]) (fun i w' => Ext w1_10 w' ∧ i ≤ T0 + 1 ∧ ∀ s, s < i → VQ A B s v x) (fun i => T0 + 1 - i) 0 ((Subs.c (lkI rfl (by omega)) Subs.n)) (⟨Ext.refl _, ⟨Nat.zero_le _, fun s hs => absurd hs (Nat.not_lt_zero _)⟩⟩) ?_
    rintro i wL0 ⟨hRL0, hi', hJ⟩
    have hzL0 := hRL0.size
    replace hE := hE.trans hRL0
    replace hA := hA.ext hRL0
    replace hB := hB.ext hRL0
    replace hB4 := hB4.ext hRL0
    replace hB6 := hB6.ext hRL0
    replace hU20 := hU20.ext hRL0
    replace hB10 := hB10.ext hRL0
    replace hNu := hNu.ext hRL0
    refine W_seq ?_
    refine W_seq ?_
    refine W_region ?_
    refine WL_q rfl (ev_move rfl) ?_
    refine WL_q rfl (ev_loads st31 sz31 rfl (cellsB hB10) rfl) ?_
    refine WL_m rfl (ev_call rfl (viStable_spec _ (uni A B) _ hNu (by omega) (by omega) hu)) ?_
    rintro _ w28 ⟨T28, rfl, hs28, hE28⟩
    have hz28 := hE28.size
    replace hE := hE.trans hE28
    replace hRL0 := hRL0.trans hE28
    replace hA := hA.ext hE28
    replace hB := hB.ext hE28
    replace hB4 := hB4.ext hE28
    replace hB6 := hB6.ext hE28
    replace hU20 := hU20.ext hE28
    replace hB10 := hB10.ext hE28
    replace hNu := hNu.ext hE28
    have hTe := hs28.uniq hT0
    refine WL_q rfl (ev_leq rfl rfl) ?_
    refine WL_nil ?_
    refine thenE_n ?_
    refine W_cond rfl (fun hg29 => ?_) (fun hg29 => ?_)
    · have hp29 := of_decide_eq_true hg29
      refine W_skip ?_
      refine thenE_n ?_
      refine W_seq ?_
      refine W_block ?_
      refine W_seq ?_
      refine W_region ?_
      refine WL_q rfl (ev_loads st31 sz31 rfl (cellsB hB10) rfl) ?_
      refine WL_q rfl (ev_move rfl) ?_
      refine WL_m rfl (ev_call rfl (viClasses_spec _ (uni A B) (i : Int) _ hNu (by omega) (by omega) hu (by omega))) ?_
      rintro _ w34 ⟨a34, c34, rfl, hO34, hE34⟩
      have hz34 := hE34.size
      replace hE := hE.trans hE34
      replace hRL0 := hRL0.trans hE34
      replace hA := hA.ext hE34
      replace hB := hB.ext hE34
      replace hB4 := hB4.ext hE34
      replace hB6 := hB6.ext hE34
      replace hU20 := hU20.ext hE34
      replace hB10 := hB10.ext hE34
      replace hNu := hNu.ext hE34
      rw [show ((i : Int)).toNat = i from Int.toNat_natCast i] at hO34
      refine WL_q rfl (ev_assign rfl) ?_
      refine WL_nil ?_
      refine thenE_n ?_
      refine W_seq ?_
      refine W_drawE [(0, true), (1, true), (2, true), (3, true), (4, true), (5, true), (6, true), (7, true), (8, true)] mixed (by kernel_rfl) rfl (by kernel_rfl) ?_
      intro wd8 hEd8 hzd8
      replace hE := hE.trans hEd8
      replace hRL0 := hRL0.trans hEd8
      replace hA := hA.ext hEd8
      replace hB := hB.ext hEd8
      replace hB4 := hB4.ext hEd8
      replace hB6 := hB6.ext hEd8
      replace hU20 := hU20.ext hEd8
      replace hB10 := hB10.ext hEd8
      replace hNu := hNu.ext hEd8
      replace hO34 := hO34.ext hEd8
      have hDd8 := Ext.refl wd8
      have hwl := vw_len (uni A B) i
      refine PW_q rfl rfl (fun wq hq => ev_move rfl) ?_
      refine PW_q rfl rfl (fun wq hq => ev_move rfl) ?_
      refine PW_q rfl rfl (fun wq hq => ev_indexAddr Try.underlying23 sz3 rfl rfl ((own_i hO34).isSome (by omega)) (by omega) (by omega)) ?_
      have hc38 := (own_i hO34).cell (i := v.toNat) (by omega)
      refine PW_q rfl rfl (fun wq hq => ev_load one3 rfl (hq.cell (hc38))) ?_
      refine PW_q rfl rfl (fun wq hq => ev_move rfl) ?_
      refine PW_q rfl rfl (fun wq hq => ev_move rfl) ?_
      refine PW_q rfl rfl (fun wq hq => ev_indexAddr Try.underlying23 sz3 rfl rfl ((own_i hO34).isSome (by omega)) (by omega) (by omega)) ?_
      have hc42 := (own_i hO34).cell (i := ((x + (A.ends.length : Int))).toNat) (by omega)
      refine PW_q rfl rfl (fun wq hq => ev_load one3 rfl (hq.cell (hc42))) ?_
      refine PW_q rfl rfl (fun wq hq => ev_neq rfl rfl) ?_
      refine PW_nil ?_
      refine thenE_n ?_
      refine W_cond rfl (fun hg43 => ?_) (fun hg43 => ?_)
      · have hp43 := of_decide_eq_true hg43
        refine W_seq ?_
        refine W_region ?_
        refine WL_q rfl (ev_move rfl) ?_
        refine WL_q rfl (ev_assign rfl) ?_
        refine WL_q rfl (ev_assign rfl) ?_
        refine WL_nil ?_
        refine thenE_n ?_
        refine W_ret ?_
        refine blockE_r ?_
        refine thenE_r ?_
        refine thenE_r ?_
        refine blockE_r ?_
        refine thenE_r ?_
        refine ret2 rfl rfl rfl ?_
        first | (refine ⟨_, _, rfl, .inr ⟨rfl, rfl, fun h => ?_⟩, hE⟩; have := hq20.2 h.1; simp_all; done) | (refine ⟨_, _, rfl, .inl ⟨rfl, hn2, by omega, fun h => hp43 ?_, fun s hs => hJ s (by omega)⟩, hE⟩; exact (vq_iff (X := vw (uni A B) i) (i := v.toNat) (j := (x + (A.ends.length : Int)).toNat) (k := A.ends.length + x.toNat) (by omega) (by omega) (by omega)).2 (by simpa [VQ] using h)) | (refine ⟨_, _, rfl, .inr ⟨rfl, rfl, fun h => ?_⟩, hE⟩; obtain ⟨_, s, hs⟩ := h; exact hs (vq_all hu hT0 (by omega) hJ s))
      · have hp43 := of_decide_eq_false hg43
        refine W_skip ?_
        refine blockE_n ?_
        refine thenE_n ?_
        refine W_region ?_
        refine WL_q rfl (ev_move rfl) ?_
        refine WL_q rfl (ev_add rfl rfl (by omega)) ?_
        refine WL_q rfl (ev_assign rfl) ?_
        refine WL_nil ?_
        refine thenE_n ?_
        have hvi := (vq_iff (X := vw (uni A B) i) (i := v.toNat) (j := (x + (A.ends.length : Int)).toNat) (k := A.ends.length + x.toNat) (by omega) (by omega) (by omega)).1 (by omega)
        exact ⟨i + 1, (Subs.c rfl (Subs.c rfl (Subs.c rfl Subs.n))), (Subs.c (lkI rfl (by omega)) Subs.n), ⟨hRL0, ⟨by omega, vsucc (P := fun s => VQ A B s v x) hJ hvi⟩⟩, by first | omega | (dsimp only; omega)⟩
    · have hp29 := of_decide_eq_false hg29
      refine W_exit ?_
      refine thenE_x ?_
      refine thenE_x ?_
      refine blockE_hit ?_
      refine thenE_n ?_
      refine W_seq ?_
      refine W_region ?_
      refine WL_q rfl (ev_assign rfl) ?_
      refine WL_q rfl (ev_assign rfl) ?_
      refine WL_nil ?_
      refine thenE_n ?_
      refine W_ret ?_
      refine ret2 rfl rfl rfl ?_
      first | (refine ⟨_, _, rfl, .inr ⟨rfl, rfl, fun h => ?_⟩, hE⟩; have := hq20.2 h.1; simp_all; done) | (refine ⟨_, _, rfl, .inl ⟨rfl, hn2, by omega, fun h => hp43 ?_, fun s hs => hJ s (by omega)⟩, hE⟩; exact (vq_iff (X := vw (uni A B) i) (i := v.toNat) (j := (x + (A.ends.length : Int)).toNat) (k := A.ends.length + x.toNat) (by omega) (by omega) (by omega)).2 (by simpa [VQ] using h)) | (refine ⟨_, _, rfl, .inr ⟨rfl, rfl, fun h => ?_⟩, hE⟩; obtain ⟨_, s, hs⟩ := h; exact hs (vq_all hu hT0 (by omega) hJ s))

set_option maxHeartbeats 4000000 in
set_option maxRecDepth 100000 in
theorem SepDepth_spec {loA hiA : Nat} (nA : NA) (A : Net) (v : Int) {loB hiB : Nat} (nB : NA) (B : Net) (x : Int) (w : World) (hA : IsNet loA hiA w nA A) (hhiA : hiA ≤ w.heap.size) (hnA : totN A ≤ 1048576) (hB : IsNet loB hiB w nB B) (hhiB : hiB ≤ w.heap.size) (hnB : totN B ≤ 1048576) :
    Fn Try.prog 18 #[netV nA A, VI v, netV nB B, VI x] w (fun o9 w' => ∃ r q, o9 = .tuple #[VI r, VB q] ∧ LeastR (N2 A B v x) (fun s => VQ A B s v x) r q ∧ Ext w w') := by
  have hqA := totL_len A.ends
  have hmA : totL A.ends + A.ids.length + A.inputs.length ≤ 1048576 := hnA
  have hqB := totL_len B.ends
  have hmB : totL B.ends + B.ids.length + B.inputs.length ≤ 1048576 := hnB
  have hE := Ext.refl w
  refine Fn_of Try.func18 rfl rfl (by kernel_rfl) rfl ?_
  refine W_seq ?_
  refine W_region ?_
  refine WL_m rfl (ev_box rfl) ?_
  rintro _ w4 ⟨rfl, hN4⟩
  have hz4 := hN4.size
  replace hE := hE.trans hN4.ext
  replace hA := hA.ext hN4.ext
  replace hB := hB.ext hN4.ext
  have hB4 : Blk w4 _ _ [_, _, _] := hN4.blk
  refine WL_m rfl (ev_box rfl) ?_
  rintro _ w6 ⟨rfl, hN6⟩
  have hz6 := hN6.size
  replace hE := hE.trans hN6.ext
  replace hA := hA.ext hN6.ext
  replace hB := hB.ext hN6.ext
  replace hB4 := hB4.ext hN6.ext
  have hB6 : Blk w6 _ _ [_, _, _] := hN6.blk
  refine WL_q rfl (ev_assign rfl) ?_
  refine WL_q rfl (ev_assign rfl) ?_
  refine WL_nil ?_
  refine thenE_n ?_
  refine W_seq ?_
  refine W_region ?_
  refine WL_q rfl (ev_loads st31 sz31 rfl (cellsB hB4) rfl) ?_
  refine WL_q rfl (ev_move rfl) ?_
  refine WL_q rfl (ev_loads st31 sz31 rfl (cellsB hB6) rfl) ?_
  refine WL_q rfl (ev_move rfl) ?_
  refine WL_m rfl (ev_call rfl (AreTwins_spec _ A _ _ B _ _ hA (by omega) (by omega) hB (by omega) (by omega))) ?_
  rintro _ w20 ⟨b20, q20, rfl, hr20, hE20⟩
  have hz20 := hE20.size
  replace hE := hE.trans hE20
  replace hA := hA.ext hE20
  replace hB := hB.ext hE20
  replace hB4 := hB4.ext hE20
  replace hB6 := hB6.ext hE20
  refine WL_q rfl (ev_move rfl) ?_
  refine WL_q rfl (ev_extract rfl rfl) ?_
  refine WL_q rfl (ev_extract rfl rfl) ?_
  refine WL_q rfl (ev_assign rfl) ?_
  refine WL_q rfl (ev_assign rfl) ?_
  refine WL_nil ?_
  refine thenE_n ?_
  refine W_seq ?_
  refine W_seq ?_
  refine W_region ?_
  refine WL_q rfl (ev_move rfl) ?_
  refine WL_q rfl (ev_not rfl) ?_
  refine WL_q rfl (ev_move rfl) ?_
  refine WL_splitv (t := 25) rfl (fun hg24 => ?_) (fun hg24 => ?_)
  · have hg22 := not_true hg24
    refine WL_no rfl rfl hg24 rfl ?_
    refine WL_q rfl (ev_pick_t rfl hg24 rfl) ?_
    refine WL_nil ?_
    refine thenE_n ?_
    refine W_cond_t rfl ?_
    refine W_seq ?_
    refine W_region ?_
    refine WL_q rfl (ev_assign rfl) ?_
    refine WL_q rfl (ev_assign rfl) ?_
    refine WL_nil ?_
    refine thenE_n ?_
    refine W_ret ?_
    refine thenE_r ?_
    refine ret2 rfl rfl rfl ?_
    first | (refine ⟨_, _, rfl, .inr ⟨rfl, rfl, fun h => ?_⟩, hE⟩; obtain ⟨hh1, s, hs⟩ := h; have hqq := hr20.1.2 hh1; first | (exfalso; simp_all; done) | (have hbb : b20 = true := (by first | assumption | simp_all); exact hs (tw_all (uni_vok hh1.1.1 hh1.1.2) hh1.2.1.2 hh1.2.2.2 (hr20.2.1 hbb).2 s))) | (refine ⟨_, _, rfl, .inl ⟨rfl, hn2, by omega, fun h => hp45 ?_, fun s hs => hJ s (by omega)⟩, hE⟩; exact (vq_iff (X := vw (uni A B) i) (i := v.toNat) (j := ((A.ends.length : Int) + x).toNat) (k := A.ends.length + x.toNat) (by omega) (by omega) (by omega)).2 (by simpa [VQ] using h))
  · have hg22 := not_false hg24
    refine WL_qg rfl rfl hg24 rfl (ev_move rfl) ?_
    refine WL_q rfl (ev_pick_f rfl hg24 rfl) ?_
    refine WL_nil ?_
    refine thenE_n ?_
    refine W_cond rfl (fun hg21 => ?_) (fun hg21 => ?_)
    · refine W_seq ?_
      refine W_region ?_
      refine WL_q rfl (ev_assign rfl) ?_
      refine WL_q rfl (ev_assign rfl) ?_
      refine WL_nil ?_
      refine thenE_n ?_
      refine W_ret ?_
      refine thenE_r ?_
      refine ret2 rfl rfl rfl ?_
      first | (refine ⟨_, _, rfl, .inr ⟨rfl, rfl, fun h => ?_⟩, hE⟩; obtain ⟨hh1, s, hs⟩ := h; have hqq := hr20.1.2 hh1; first | (exfalso; simp_all; done) | (have hbb : b20 = true := (by first | assumption | simp_all); exact hs (tw_all (uni_vok hh1.1.1 hh1.1.2) hh1.2.1.2 hh1.2.2.2 (hr20.2.1 hbb).2 s))) | (refine ⟨_, _, rfl, .inl ⟨rfl, hn2, by omega, fun h => hp45 ?_, fun s hs => hJ s (by omega)⟩, hE⟩; exact (vq_iff (X := vw (uni A B) i) (i := v.toNat) (j := ((A.ends.length : Int) + x).toNat) (k := A.ends.length + x.toNat) (by omega) (by omega) (by omega)).2 (by simpa [VQ] using h))
    · refine W_skip ?_
      refine thenE_n ?_
      refine W_seq ?_
      refine W_region ?_
      have hok : q20 = true := by first | assumption | simp_all
      have hbk : b20 = false := by first | assumption | simp_all
      have hn2 := hr20.1.1 hok
      obtain ⟨⟨hkA, hkB⟩, hnv, hnx⟩ := (id hn2)
      have hnv1 := hnv.1
      have hnv2 := hnv.2
      have hnx1 := hnx.1
      have hnx2 := hnx.2
      have hndA := hkA.nodes
      have hndB := hkB.nodes
      have hu := uni_vok hkA hkB
      have huT := uni_tot hkA hkB
      have hupos := hu.pos
      have hul := uni_len A B
      have hntw : ¬ TW A B v x := fun h => by have := hr20.2.2 ⟨hn2, h⟩; simp_all
      obtain ⟨T0, hT0, hT0q⟩ := not_tw hu hntw
      have hT0l := hT0.le
      refine WL_q rfl (ev_loads st31 sz31 rfl (cellsB hB4) rfl) ?_
      refine WL_q rfl (ev_loads st31 sz31 rfl (cellsB hB6) rfl) ?_
      refine WL_m rfl (ev_call rfl (joined_spec _ A _ B _ hA (by omega) (by omega) hB (by omega) (by omega) (by assumption) (by assumption))) ?_
      rintro _ w30 ⟨h30, rfl, hN30, hE30⟩
      have hz30 := hE30.size
      replace hE := hE.trans hE30
      replace hA := hA.ext hE30
      replace hB := hB.ext hE30
      replace hB4 := hB4.ext hE30
      replace hB6 := hB6.ext hE30
      refine WL_m rfl (ev_alloc zr31) ?_
      rintro _ w12 ⟨rfl, hN12⟩
      have hz12 := hN12.size
      replace hE := hE.trans hN12.ext
      replace hA := hA.ext hN12.ext
      replace hB := hB.ext hN12.ext
      replace hB4 := hB4.ext hN12.ext
      replace hB6 := hB6.ext hN12.ext
      replace hN30 := hN30.ext hN12.ext
      have hB12 : Blk w12 _ _ [_, _, _] := hN12.blk
      refine WL_s (ev_stores sz31 rfl rfl rfl (by simp [Value.oneCell']) hB12 (by simp)) ?_
      rintro _ w4_4 hS4_4
      have hz4_4 := hS4_4.size
      replace hE := hE.sto hS4_4 (by omega)
      replace hA := hA.sto hS4_4 (by omega)
      replace hB := hB.sto hS4_4 (by omega)
      replace hB4 := hB4.sto hS4_4 (by omega)
      replace hB6 := hB6.sto hS4_4 (by omega)
      replace hN30 := hN30.sto hS4_4 (by omega)
      replace hB12 : Blk w4_4 _ _ [_, _, _] := hS4_4.blk
      refine WL_nil ?_
      refine thenE_n ?_
      refine W_seq ?_
      refine W_region ?_
      refine WL_q rfl (ev_loads st31 sz31 rfl (cellsB hB12) rfl) ?_
      refine WL_m rfl (ev_call rfl (viewClasses_nil _ (uni A B) _ hN30 (by omega) (by omega) hu)) ?_
      rintro _ w32 ⟨a32, c32, rfl, hO32, hE32⟩
      have hz32 := hE32.size
      replace hE := hE.trans hE32
      replace hA := hA.ext hE32
      replace hB := hB.ext hE32
      replace hB4 := hB4.ext hE32
      replace hB6 := hB6.ext hE32
      replace hN30 := hN30.ext hE32
      replace hB12 := hB12.ext hE32
      refine WL_q rfl (ev_assign rfl) ?_
      refine WL_nil ?_
      refine thenE_n ?_
      refine W_seq ?_
      refine W_region ?_
      refine WL_q rfl (ev_assign rfl) ?_
      refine WL_nil ?_
      refine thenE_n ?_
      refine W_seq ?_
      refine W_block ?_
      refine W_loopC (G := Nat × Option Addr × Nat) [(1, _), (3, _), (4, _), (12, _)] ((Subs.c rfl (Subs.c rfl (Subs.c rfl (Subs.c rfl Subs.n))))) (fun ⟨i, a, c⟩ => [(13, .slice a (uni A B).ends.length c), (14, VI (i : Int))]) (fun ⟨i, a, c⟩ w' => Ext w32 w' ∧ (∀ s, s < i → VQ A B s v x) ∧ OwnH w30.heap.size w'.heap.size 0 0 w' 3 1 a (uni A B).ends.length c ((vw (uni A B) i).map VI)) (fun g => T0 + 1 - g.1) (0, _, _) ((Subs.c rfl (Subs.c rfl Subs.n))) (⟨Ext.refl _, ⟨fun s hs => absurd hs (Nat.not_lt_zero _), hO32.h.up (by omega) (by omega)⟩⟩) ?_
      rintro ⟨i, a, c⟩ wL0 ⟨hRL0, hJ, hO⟩
      have hzL0 := hRL0.size
      replace hE := hE.trans hRL0
      replace hA := hA.ext hRL0
      replace hB := hB.ext hRL0
      replace hB4 := hB4.ext hRL0
      replace hB6 := hB6.ext hRL0
      replace hN30 := hN30.ext hRL0
      replace hB12 := hB12.ext hRL0
      replace hO32 := hO32.ext hRL0
      have hiT : i ≤ T0 := Nat.le_of_not_lt fun h => hT0q (vq_all hu hT0 h hJ T0)
      have hwl := vw_len (uni A B) i
      refine W_seq ?_
      refine W_seq ?_
      refine W_drawE [(0, true), (1, true), (2, true), (3, true), (4, true), (5, true), (6, true), (7, true), (8, true), (9, true), (10, true), (11, true), (12, true)] mixed (by kernel_rfl) rfl (by kernel_rfl) ?_
      intro wd7 hEd7 hzd7
      replace hE := hE.trans hEd7
      replace hRL0 := hRL0.trans hEd7
      replace hA := hA.ext hEd7
      replace hB := hB.ext hEd7
      replace hB4 := hB4.ext hEd7
      replace hB6 := hB6.ext hEd7
      replace hN30 := hN30.ext hEd7
      replace hB12 := hB12.ext hEd7
      replace hO := hO.ext hEd7
      have hDd7 := Ext.refl wd7
      refine PW_q rfl rfl (fun wq hq => ev_move rfl) ?_
      refine PW_q rfl rfl (fun wq hq => ev_move rfl) ?_
      refine PW_q rfl rfl (fun wq hq => ev_indexAddr Try.underlying23 sz3 rfl rfl ((ownt_i hO).isSome (by omega)) (by omega) (by omega)) ?_
      have hc36 := (ownt_i hO).cell (i := v.toNat) (by omega)
      refine PW_q rfl rfl (fun wq hq => ev_load one3 rfl (hq.cell (hc36))) ?_
      refine PW_q rfl rfl (fun wq hq => ev_move rfl) ?_
      refine PW_q rfl rfl (fun wq hq => ev_fieldAddr fo31_0 rfl) ?_
      refine PW_q rfl rfl (fun wq hq => ev_load one29 rfl (hq.cell (hB4.cell rfl))) ?_
      refine PW_q rfl rfl (fun wq hq => ev_len Try.underlying29 rfl) ?_
      refine PW_q rfl rfl (fun wq hq => ev_move rfl) ?_
      refine PW_q rfl rfl (fun wq hq => ev_add rfl rfl (by omega)) ?_
      refine PW_q rfl rfl (fun wq hq => ev_indexAddr Try.underlying23 sz3 rfl rfl ((ownt_i hO).isSome (by omega)) (by omega) (by omega)) ?_
      have hc44 := (ownt_i hO).cell (i := (((A.ends.length : Int) + x)).toNat) (by omega)
      refine PW_q rfl rfl (fun wq hq => ev_load one3 rfl (hq.cell (hc44))) ?_
      refine PW_q rfl rfl (fun wq hq => ev_eql rfl rfl) ?_
      refine PW_nil ?_
      refine thenE_n ?_
      refine W_cond rfl (fun hg45 => ?_) (fun hg45 => ?_)
      · have hp45 := of_decide_eq_true hg45
        refine W_skip ?_
        refine thenE_n ?_
        refine W_seq ?_
        refine W_block ?_
        refine W_region ?_
        refine WL_q rfl (ev_loads st31 sz31 rfl (cellsB hB12) rfl) ?_
        refine WL_q rfl (ev_move rfl) ?_
        refine WL_m rfl (ev_call rfl (viewClasses_some _ (uni A B) _ _ (vw (uni A B) i) _ hN30 (by omega) (by omega) hu (ownt_is hO) (by omega) (vw_len _ _) (fun y hy => by have := vw_rng (uni A B) _ y hy; omega))) ?_
        rintro _ w50 ⟨a50, c50, rfl, hO50, hE50⟩
        have hz50 := hE50.size
        replace hE := hE.trans hE50
        replace hRL0 := hRL0.trans hE50
        replace hA := hA.ext hE50
        replace hB := hB.ext hE50
        replace hB4 := hB4.ext hE50
        replace hB6 := hB6.ext hE50
        replace hN30 := hN30.ext hE50
        replace hB12 := hB12.ext hE50
        replace hO := hO.ext hE50
        refine WL_q rfl (ev_assign rfl) ?_
        refine WL_nil ?_
        refine blockE_n ?_
        refine thenE_n ?_
        refine W_region ?_
        refine WL_q rfl (ev_move rfl) ?_
        refine WL_q rfl (ev_add rfl rfl (by omega)) ?_
        refine WL_q rfl (ev_assign rfl) ?_
        refine WL_nil ?_
        refine thenE_n ?_
        have hvi := (vq_iff (X := vw (uni A B) i) (i := v.toNat) (j := ((A.ends.length : Int) + x).toNat) (k := A.ends.length + x.toNat) (by omega) (by omega) (by omega)).1 hp45
        exact ⟨(i + 1, a50, c50), (Subs.c rfl (Subs.c rfl (Subs.c rfl (Subs.c rfl Subs.n)))), (Subs.c rfl (Subs.c (lkI rfl (by omega)) Subs.n)), ⟨hRL0, ⟨vsucc (P := fun s => VQ A B s v x) hJ hvi, hO50.h.up (by omega) (by omega)⟩⟩, by first | omega | (dsimp only; omega)⟩
      · have hp45 := of_decide_eq_false hg45
        refine W_exit ?_
        refine thenE_x ?_
        refine thenE_x ?_
        refine blockE_hit ?_
        refine thenE_n ?_
        refine W_seq ?_
        refine W_region ?_
        refine WL_q rfl (ev_move rfl) ?_
        refine WL_q rfl (ev_assign rfl) ?_
        refine WL_q rfl (ev_assign rfl) ?_
        refine WL_nil ?_
        refine thenE_n ?_
        refine W_ret ?_
        refine ret2 rfl rfl rfl ?_
        first | (refine ⟨_, _, rfl, .inr ⟨rfl, rfl, fun h => ?_⟩, hE⟩; obtain ⟨hh1, s, hs⟩ := h; have hqq := hr20.1.2 hh1; first | (exfalso; simp_all; done) | (have hbb : b20 = true := (by first | assumption | simp_all); exact hs (tw_all (uni_vok hh1.1.1 hh1.1.2) hh1.2.1.2 hh1.2.2.2 (hr20.2.1 hbb).2 s))) | (refine ⟨_, _, rfl, .inl ⟨rfl, hn2, by omega, fun h => hp45 ?_, fun s hs => hJ s (by omega)⟩, hE⟩; exact (vq_iff (X := vw (uni A B) i) (i := v.toNat) (j := ((A.ends.length : Int) + x).toNat) (k := A.ends.length + x.toNat) (by omega) (by omega) (by omega)).2 (by simpa [VQ] using h))

set_option maxRecDepth 100000 in
theorem law_SameView (nA : NA) (A : Net) (v : Int) (nB : NA) (B : Net) (x : Int) (t : Int) (w : World) (hA : IsNet 0 w.heap.size w nA A) (hsA : SmN A) (hB : IsNet 0 w.heap.size w nB B) (hsB : SmN B) (hiv : I64 v) (hix : I64 x) (hit : I64 t) :
    Fn Try.prog 3 #[netV nA A, VI v, netV nB B, VI x, VI t] w (fun v w' => v = VB true ∧ Ext w w') := by
  have hE := Ext.refl w
  refine Fn_of Try.func3 rfl rfl (by kernel_rfl) rfl ?_
  refine W_seq ?_
  refine W_region ?_
  refine WL_m rfl (ev_box rfl) ?_
  rintro _ w5 ⟨rfl, hN5⟩
  have hz5 := hN5.size
  replace hE := hE.trans hN5.ext
  replace hA := hA.ext hN5.ext
  replace hB := hB.ext hN5.ext
  have hB5 : Blk w5 _ _ [_, _, _] := hN5.blk
  refine WL_m rfl (ev_box rfl) ?_
  rintro _ w7 ⟨rfl, hN7⟩
  have hz7 := hN7.size
  replace hE := hE.trans hN7.ext
  replace hA := hA.ext hN7.ext
  replace hB := hB.ext hN7.ext
  replace hB5 := hB5.ext hN7.ext
  have hB7 : Blk w7 _ _ [_, _, _] := hN7.blk
  refine WL_q rfl (ev_assign rfl) ?_
  refine WL_nil ?_
  refine thenE_n ?_
  refine W_seq ?_
  refine W_region ?_
  refine WL_q rfl (ev_assign rfl) ?_
  refine WL_nil ?_
  refine thenE_n ?_
  refine W_seq ?_
  refine W_region ?_
  refine WL_q rfl (ev_loads st25 sz25 rfl (cellsB hB5) rfl) ?_
  refine WL_q rfl (ev_move rfl) ?_
  refine WL_m rfl (ev_call rfl (szNetwork_spec _ A _ _ hA (by omega) hsA)) ?_
  rintro _ w20 ⟨r20, rfl, hE20, hr20⟩
  have hz20 := hE20.size
  replace hE := hE.trans hE20
  replace hA := hA.ext hE20
  replace hB := hB.ext hE20
  replace hB5 := hB5.ext hE20
  replace hB7 := hB7.ext hE20
  refine WL_q rfl (ev_assign rfl) ?_
  refine WL_nil ?_
  refine thenE_n ?_
  refine W_seq ?_
  refine W_seq ?_
  refine W_region ?_
  refine WL_q rfl (ev_move rfl) ?_
  refine WL_q rfl (ev_lss rfl rfl) ?_
  refine WL_nil ?_
  refine thenE_n ?_
  refine W_cond rfl (fun hg22 => ?_) (fun hg22 => ?_)
  · have hp22 := of_decide_eq_true hg22
    refine W_seq ?_
    refine W_region ?_
    refine WL_q rfl (ev_assign rfl) ?_
    refine WL_nil ?_
    refine thenE_n ?_
    refine W_ret ?_
    refine thenE_r ?_
    refine ret1 rfl rfl ?_
    first | (exact ⟨rfl, hE⟩) | (exact (tfX hg22).elim) | (exact (decF hg22).elim) | (exfalso; omega)
  · have hp22 := of_decide_eq_false hg22
    refine W_skip ?_
    refine thenE_n ?_
    refine W_seq ?_
    refine W_region ?_
    refine WL_q rfl (ev_loads st25 sz25 rfl (cellsB hB7) rfl) ?_
    refine WL_q rfl (ev_move rfl) ?_
    refine WL_m rfl (ev_call rfl (szNetwork_spec _ B _ _ hB (by omega) hsB)) ?_
    rintro _ w25 ⟨r25, rfl, hE25, hr25⟩
    have hz25 := hE25.size
    replace hE := hE.trans hE25
    replace hA := hA.ext hE25
    replace hB := hB.ext hE25
    replace hB5 := hB5.ext hE25
    replace hB7 := hB7.ext hE25
    refine WL_q rfl (ev_assign rfl) ?_
    refine WL_nil ?_
    refine thenE_n ?_
    refine W_seq ?_
    refine W_seq ?_
    refine W_region ?_
    refine WL_q rfl (ev_move rfl) ?_
    refine WL_q rfl (ev_lss rfl rfl) ?_
    refine WL_nil ?_
    refine thenE_n ?_
    refine W_cond rfl (fun hg27 => ?_) (fun hg27 => ?_)
    · have hp27 := of_decide_eq_true hg27
      refine W_seq ?_
      refine W_region ?_
      refine WL_q rfl (ev_assign rfl) ?_
      refine WL_nil ?_
      refine thenE_n ?_
      refine W_ret ?_
      refine thenE_r ?_
      refine ret1 rfl rfl ?_
      first | (exact ⟨rfl, hE⟩) | (exact (tfX hg27).elim) | (exact (decF hg27).elim) | (exfalso; omega)
    · have hp27 := of_decide_eq_false hg27
      refine W_skip ?_
      refine thenE_n ?_
      refine W_seq ?_
      refine W_drawE [(0, true), (2, true), (3, true), (5, true), (6, true), (1, false), (4, false), (7, false), (8, true), (9, true), (10, true), (11, true), (12, true)] mixed (by kernel_rfl) rfl (by kernel_rfl) ?_
      intro wd8 hEd8 hzd8
      replace hE := hE.trans hEd8
      replace hA := hA.ext hEd8
      replace hB := hB.ext hEd8
      replace hB5 := hB5.ext hEd8
      replace hB7 := hB7.ext hEd8
      have hDd8 := Ext.refl wd8
      refine PW_q rfl rfl (fun wq hq => ev_loads st25 sz25 rfl (cellsB (hq.blk hB5)) rfl) ?_
      refine PW_q rfl rfl (fun wq hq => ev_move rfl) ?_
      refine PW_q rfl rfl (fun wq hq => ev_loads st25 sz25 rfl (cellsB (hq.blk hB7)) rfl) ?_
      refine PW_q rfl rfl (fun wq hq => ev_move rfl) ?_
      refine PW_q rfl rfl (fun wq hq => ev_move rfl) ?_
      refine PW_m rfl rfl (ev_call rfl (toNetwork_spec _ A _ hA (by omega) (by omega))) ?_
      rintro _ w30 ⟨h30, rfl, hF30, hE30⟩
      have hz30 := hE30.size
      replace hE := hE.trans hE30
      replace hDd8 := hDd8.trans hE30
      have hN30 := hF30.is
      refine ⟨hDd8, ?_⟩
      have hA_4 := hA.ext hDd8
      have hB_4 := hB.ext hDd8
      have hB5_4 := hB5.ext hDd8
      have hB7_4 := hB7.ext hDd8
      refine PW_m rfl rfl (ev_call rfl (toNetwork_spec _ B _ hB_4 (by omega) (by omega))) ?_
      rintro _ w33 ⟨h33, rfl, hF33, hE33⟩
      have hz33 := hE33.size
      replace hE := hE.trans hE33
      replace hDd8 := hDd8.trans hE33
      replace hF30 := hF30.ext hE33
      replace hN30 := hN30.ext hE33
      have hN33 := hF33.is
      refine ⟨hDd8, ?_⟩
      have hA_7 := hA.ext hDd8
      have hB_7 := hB.ext hDd8
      have hB5_7 := hB5.ext hDd8
      have hB7_7 := hB7.ext hDd8
      refine PW_m rfl rfl (ev_call rfl (sSameView_spec _ A _ _ B _ _ _ hN30 (by omega) (by omega) hN33 (by omega) (by omega))) ?_
      rintro _ w36 ⟨b36, q36, rfl, hr36, hE36⟩
      have hz36 := hE36.size
      replace hE := hE.trans hE36
      replace hDd8 := hDd8.trans hE36
      replace hF30 := hF30.ext hE36
      replace hN30 := hN30.ext hE36
      replace hF33 := hF33.ext hE36
      replace hN33 := hN33.ext hE36
      refine ⟨hDd8, ?_⟩
      refine PW_q rfl rfl (fun wq hq => ev_move rfl) ?_
      refine PW_q rfl rfl (fun wq hq => ev_extract rfl rfl) ?_
      refine PW_q rfl rfl (fun wq hq => ev_extract rfl rfl) ?_
      refine PW_q rfl rfl (fun wq hq => ev_assign rfl) ?_
      refine PW_q rfl rfl (fun wq hq => ev_assign rfl) ?_
      replace hA := hA.ext hDd8
      replace hB := hB.ext hDd8
      replace hB5 := hB5.ext hDd8
      replace hB7 := hB7.ext hDd8
      refine PW_nil ?_
      refine thenE_n ?_
      refine W_seq ?_
      refine W_region ?_
      refine WL_q rfl (ev_loads st25 sz25 rfl (cellsB hB5) rfl) ?_
      refine WL_m rfl (ev_call rfl (toNetwork_spec _ A _ hA (by omega) (by omega))) ?_
      rintro _ w40 ⟨h40, rfl, hF40, hE40⟩
      have hz40 := hE40.size
      replace hE := hE.trans hE40
      replace hA := hA.ext hE40
      replace hB := hB.ext hE40
      replace hB5 := hB5.ext hE40
      replace hB7 := hB7.ext hE40
      replace hF30 := hF30.ext hE40
      replace hN30 := hN30.ext hE40
      replace hF33 := hF33.ext hE40
      replace hN33 := hN33.ext hE40
      have hN40 := hF40.is
      refine WL_m rfl (ev_alloc zr31) ?_
      rintro _ w14 ⟨rfl, hN14⟩
      have hz14 := hN14.size
      replace hE := hE.trans hN14.ext
      replace hA := hA.ext hN14.ext
      replace hB := hB.ext hN14.ext
      replace hB5 := hB5.ext hN14.ext
      replace hB7 := hB7.ext hN14.ext
      replace hF30 := hF30.ext hN14.ext
      replace hN30 := hN30.ext hN14.ext
      replace hF33 := hF33.ext hN14.ext
      replace hN33 := hN33.ext hN14.ext
      replace hF40 := hF40.ext hN14.ext
      replace hN40 := hN40.ext hN14.ext
      have hB14 : Blk w14 _ _ [_, _, _] := hN14.blk
      refine WL_s (ev_stores sz31 rfl rfl rfl (by simp [Value.oneCell']) hB14 (by simp)) ?_
      rintro _ w9_3 hS9_3
      have hz9_3 := hS9_3.size
      replace hE := hE.sto hS9_3 (by omega)
      replace hA := hA.sto hS9_3 (by omega)
      replace hB := hB.sto hS9_3 (by omega)
      replace hB5 := hB5.sto hS9_3 (by omega)
      replace hB7 := hB7.sto hS9_3 (by omega)
      replace hF30 := hF30.sto hS9_3 (by omega)
      replace hN30 := hN30.sto hS9_3 (by omega)
      replace hF33 := hF33.sto hS9_3 (by omega)
      replace hN33 := hN33.sto hS9_3 (by omega)
      replace hF40 := hF40.sto hS9_3 (by omega)
      replace hN40 := hN40.sto hS9_3 (by omega)
      replace hB14 : Blk w9_3 _ _ [_, _, _] := hS9_3.blk
      refine WL_nil ?_
      refine thenE_n ?_
      refine W_seq ?_
      refine W_region ?_
      refine WL_q rfl (ev_loads st25 sz25 rfl (cellsB hB7) rfl) ?_
      refine WL_m rfl (ev_call rfl (toNetwork_spec _ B _ hB (by omega) (by omega))) ?_
      rintro _ w42 ⟨h42, rfl, hF42, hE42⟩
      have hz42 := hE42.size
      replace hE := hE.trans hE42
      replace hA := hA.ext hE42
      replace hB := hB.ext hE42
      replace hB5 := hB5.ext hE42
      replace hB7 := hB7.ext hE42
      replace hF30 := hF30.ext hE42
      replace hN30 := hN30.ext hE42
      replace hF33 := hF33.ext hE42
      replace hN33 := hN33.ext hE42
      replace hF40 := hF40.ext hE42
      replace hN40 := hN40.ext hE42
      replace hB14 := hB14.ext hE42
      have hN42 := hF42.is
      refine WL_m rfl (ev_alloc zr31) ?_
      rintro _ w15 ⟨rfl, hN15⟩
      have hz15 := hN15.size
      replace hE := hE.trans hN15.ext
      replace hA := hA.ext hN15.ext
      replace hB := hB.ext hN15.ext
      replace hB5 := hB5.ext hN15.ext
      replace hB7 := hB7.ext hN15.ext
      replace hF30 := hF30.ext hN15.ext
      replace hN30 := hN30.ext hN15.ext
      replace hF33 := hF33.ext hN15.ext
      replace hN33 := hN33.ext hN15.ext
      replace hF40 := hF40.ext hN15.ext
      replace hN40 := hN40.ext hN15.ext
      replace hB14 := hB14.ext hN15.ext
      replace hF42 := hF42.ext hN15.ext
      replace hN42 := hN42.ext hN15.ext
      have hB15 : Blk w15 _ _ [_, _, _] := hN15.blk
      refine WL_s (ev_stores sz31 rfl rfl rfl (by simp [Value.oneCell']) hB15 (by simp)) ?_
      rintro _ w10_3 hS10_3
      have hz10_3 := hS10_3.size
      replace hE := hE.sto hS10_3 (by omega)
      replace hA := hA.sto hS10_3 (by omega)
      replace hB := hB.sto hS10_3 (by omega)
      replace hB5 := hB5.sto hS10_3 (by omega)
      replace hB7 := hB7.sto hS10_3 (by omega)
      replace hF30 := hF30.sto hS10_3 (by omega)
      replace hN30 := hN30.sto hS10_3 (by omega)
      replace hF33 := hF33.sto hS10_3 (by omega)
      replace hN33 := hN33.sto hS10_3 (by omega)
      replace hF40 := hF40.sto hS10_3 (by omega)
      replace hN40 := hN40.sto hS10_3 (by omega)
      replace hB14 := hB14.sto hS10_3 (by omega)
      replace hF42 := hF42.sto hS10_3 (by omega)
      replace hN42 := hN42.sto hS10_3 (by omega)
      replace hB15 : Blk w10_3 _ _ [_, _, _] := hS10_3.blk
      refine WL_nil ?_
      refine thenE_n ?_
      refine W_seq ?_
      refine W_region ?_
      refine WL_q rfl (ev_loads st31 sz31 rfl (cellsB hB14) rfl) ?_
      refine WL_q rfl (ev_move rfl) ?_
      refine WL_q rfl (ev_loads st31 sz31 rfl (cellsB hB15) rfl) ?_
      refine WL_q rfl (ev_move rfl) ?_
      refine WL_q rfl (ev_move rfl) ?_
      refine WL_m rfl (ev_call rfl (SameView_spec _ A _ _ B _ _ _ hN40 (by omega) (by omega) hN42 (by omega) (by omega))) ?_
      rintro _ w49 ⟨b49, q49, rfl, hr49, hE49⟩
      have hz49 := hE49.size
      replace hE := hE.trans hE49
      replace hA := hA.ext hE49
      replace hB := hB.ext hE49
      replace hB5 := hB5.ext hE49
      replace hB7 := hB7.ext hE49
      replace hF30 := hF30.ext hE49
      replace hN30 := hN30.ext hE49
      replace hF33 := hF33.ext hE49
      replace hN33 := hN33.ext hE49
      replace hF40 := hF40.ext hE49
      replace hN40 := hN40.ext hE49
      replace hB14 := hB14.ext hE49
      replace hF42 := hF42.ext hE49
      replace hN42 := hN42.ext hE49
      replace hB15 := hB15.ext hE49
      refine WL_q rfl (ev_move rfl) ?_
      refine WL_q rfl (ev_extract rfl rfl) ?_
      refine WL_q rfl (ev_extract rfl rfl) ?_
      refine WL_q rfl (ev_assign rfl) ?_
      refine WL_q rfl (ev_assign rfl) ?_
      refine WL_nil ?_
      refine thenE_n ?_
      refine W_seq ?_
      refine W_seq ?_
      refine W_region ?_
      refine WL_q rfl (ev_move rfl) ?_
      refine WL_q rfl (ev_move rfl) ?_
      refine WL_q rfl (ev_neq_b Try.underlying4 rfl rfl) ?_
      refine WL_q rfl (ev_move rfl) ?_
      refine WL_splitv (t := 55) rfl (fun hg54 => ?_) (fun hg54 => ?_)
      · refine WL_no rfl rfl hg54 rfl ?_
        refine WL_no rfl rfl hg54 rfl ?_
        refine WL_no rfl rfl hg54 rfl ?_
        refine WL_q rfl (ev_pick_t rfl hg54 rfl) ?_
        refine WL_nil ?_
        refine thenE_n ?_
        refine W_cond_t rfl ?_
        refine W_seq ?_
        refine W_region ?_
        refine WL_q rfl (ev_assign rfl) ?_
        refine WL_nil ?_
        refine thenE_n ?_
        refine W_ret ?_
        refine thenE_r ?_
        refine ret1 rfl rfl ?_
        first | (exact ⟨rfl, hE⟩) | (exact (bneE hg54 (hr49.det1 hr36)).elim) | (exact absurd (hr49.det1 hr36) hp54) | (exact absurd (hr49.det1 hr36) (of_decide_eq_false hg54)) | (exact (bneE hg54 (hr49.det2 hr36)).elim) | (exact absurd (hr49.det2 hr36) hp54) | (exact absurd (hr49.det2 hr36) (of_decide_eq_false hg54)) | (exact (bneE hg54 (hr49.det3 hr36)).elim) | (exact absurd (hr49.det3 hr36) hp54) | (exact absurd (hr49.det3 hr36) (of_decide_eq_false hg54)) | (exact (tfX hg54).elim) | (exact (decF hg54).elim) | (exfalso; omega)
      · refine WL_qg rfl rfl hg54 rfl (ev_move rfl) ?_
        refine WL_qg rfl rfl hg54 rfl (ev_move rfl) ?_
        refine WL_qg rfl rfl hg54 rfl (ev_neq_b Try.underlying4 rfl rfl) ?_
        refine WL_q rfl (ev_pick_f rfl hg54 rfl) ?_
        refine WL_nil ?_
        refine thenE_n ?_
        refine W_cond rfl (fun hg58 => ?_) (fun hg58 => ?_)
        · refine W_seq ?_
          refine W_region ?_
          refine WL_q rfl (ev_assign rfl) ?_
          refine WL_nil ?_
          refine thenE_n ?_
          refine W_ret ?_
          refine thenE_r ?_
          refine ret1 rfl rfl ?_
          first | (exact ⟨rfl, hE⟩) | (exact (bneE hg58 (hr49.det1 hr36)).elim) | (exact absurd (hr49.det1 hr36) hp58) | (exact absurd (hr49.det1 hr36) (of_decide_eq_false hg58)) | (exact (bneE hg58 (hr49.det2 hr36)).elim) | (exact absurd (hr49.det2 hr36) hp58) | (exact absurd (hr49.det2 hr36) (of_decide_eq_false hg58)) | (exact (bneE hg58 (hr49.det3 hr36)).elim) | (exact absurd (hr49.det3 hr36) hp58) | (exact absurd (hr49.det3 hr36) (of_decide_eq_false hg58)) | (exact (tfX hg58).elim) | (exact (decF hg58).elim) | (exfalso; omega)
        · refine W_skip ?_
          refine thenE_n ?_
          refine W_seq ?_
          refine W_seq ?_
          refine W_drawE [(0, true), (1, true), (2, false), (3, false), (4, true)] mixed (by kernel_rfl) rfl (by kernel_rfl) ?_
          intro wd14 hEd14 hzd14
          replace hE := hE.trans hEd14
          replace hA := hA.ext hEd14
          replace hB := hB.ext hEd14
          replace hB5 := hB5.ext hEd14
          replace hB7 := hB7.ext hEd14
          replace hF30 := hF30.ext hEd14
          replace hN30 := hN30.ext hEd14
          replace hF33 := hF33.ext hEd14
          replace hN33 := hN33.ext hEd14
          replace hF40 := hF40.ext hEd14
          replace hN40 := hN40.ext hEd14
          replace hB14 := hB14.ext hEd14
          replace hF42 := hF42.ext hEd14
          replace hN42 := hN42.ext hEd14
          replace hB15 := hB15.ext hEd14
          have hDd14 := Ext.refl wd14
          refine PW_q rfl rfl (fun wq hq => ev_loads st31 sz31 rfl (cellsB (hq.blk hB14)) rfl) ?_
          refine PW_q rfl rfl (fun wq hq => ev_loads st25 sz25 rfl (cellsB (hq.blk hB5)) rfl) ?_
          refine PW_m rfl rfl (ev_call rfl (toNetwork_spec _ A _ hA (by omega) (by omega))) ?_
          rintro _ w62 ⟨h62, rfl, hF62, hE62⟩
          have hz62 := hE62.size
          replace hE := hE.trans hE62
          replace hDd14 := hDd14.trans hE62
          have hN62 := hF62.is
          refine ⟨hDd14, ?_⟩
          have hA_3 := hA.ext hDd14
          have hB_3 := hB.ext hDd14
          have hB5_3 := hB5.ext hDd14
          have hB7_3 := hB7.ext hDd14
          have hF30_3 := hF30.ext hDd14
          have hN30_3 := hN30.ext hDd14
          have hF33_3 := hF33.ext hDd14
          have hN33_3 := hN33.ext hDd14
          have hF40_3 := hF40.ext hDd14
          have hN40_3 := hN40.ext hDd14
          have hB14_3 := hB14.ext hDd14
          have hF42_3 := hF42.ext hDd14
          have hN42_3 := hN42.ext hDd14
          have hB15_3 := hB15.ext hDd14
          refine PW_m rfl rfl (ev_call rfl (eqNetwork_spec _ _ A _ hN40_3 hN62 (by omega))) ?_
          rintro _ w63 ⟨rfl, hE63⟩
          have hz63 := hE63.size
          replace hE := hE.trans hE63
          replace hDd14 := hDd14.trans hE63
          replace hF62 := hF62.ext hE63
          replace hN62 := hN62.ext hE63
          refine ⟨hDd14, ?_⟩
          refine PW_q rfl rfl (fun wq hq => ev_not rfl) ?_
          replace hA := hA.ext hDd14
          replace hB := hB.ext hDd14
          replace hB5 := hB5.ext hDd14
          replace hB7 := hB7.ext hDd14
          replace hF30 := hF30.ext hDd14
          replace hN30 := hN30.ext hDd14
          replace hF33 := hF33.ext hDd14
          replace hN33 := hN33.ext hDd14
          replace hF40 := hF40.ext hDd14
          replace hN40 := hN40.ext hDd14
          replace hB14 := hB14.ext hDd14
          replace hF42 := hF42.ext hDd14
          replace hN42 := hN42.ext hDd14
          replace hB15 := hB15.ext hDd14
          refine PW_nil ?_
          refine thenE_n ?_
          refine W_cond rfl (fun hg64 => ?_) (fun hg64 => ?_)
          · have hg63 := not_true hg64
            refine W_seq ?_
            refine W_region ?_
            refine WL_q rfl (ev_assign rfl) ?_
            refine WL_nil ?_
            refine thenE_n ?_
            refine W_ret ?_
            refine thenE_r ?_
            refine ret1 rfl rfl ?_
            first | (exact ⟨rfl, hE⟩) | (exact (bneE hg63 (hr49.det1 hr36)).elim) | (exact absurd (hr49.det1 hr36) hp63) | (exact absurd (hr49.det1 hr36) (of_decide_eq_false hg63)) | (exact (bneE hg63 (hr49.det2 hr36)).elim) | (exact absurd (hr49.det2 hr36) hp63) | (exact absurd (hr49.det2 hr36) (of_decide_eq_false hg63)) | (exact (bneE hg63 (hr49.det3 hr36)).elim) | (exact absurd (hr49.det3 hr36) hp63) | (exact absurd (hr49.det3 hr36) (of_decide_eq_false hg63)) | (exact (tfX hg63).elim) | (exact (decF hg63).elim) | (exfalso; omega)
          · have hg63 := not_false hg64
            refine W_skip ?_
            refine thenE_n ?_
            refine W_seq ?_
            refine W_seq ?_
            refine W_drawE [(0, true), (1, true), (2, false), (3, false), (4, true)] mixed (by kernel_rfl) rfl (by kernel_rfl) ?_
            intro wd16 hEd16 hzd16
            replace hE := hE.trans hEd16
            replace hA := hA.ext hEd16
            replace hB := hB.ext hEd16
            replace hB5 := hB5.ext hEd16
            replace hB7 := hB7.ext hEd16
            replace hF30 := hF30.ext hEd16
            replace hN30 := hN30.ext hEd16
            replace hF33 := hF33.ext hEd16
            replace hN33 := hN33.ext hEd16
            replace hF40 := hF40.ext hEd16
            replace hN40 := hN40.ext hEd16
            replace hB14 := hB14.ext hEd16
            replace hF42 := hF42.ext hEd16
            replace hN42 := hN42.ext hEd16
            replace hB15 := hB15.ext hEd16
            replace hF62 := hF62.ext hEd16
            replace hN62 := hN62.ext hEd16
            have hDd16 := Ext.refl wd16
            refine PW_q rfl rfl (fun wq hq => ev_loads st31 sz31 rfl (cellsB (hq.blk hB15)) rfl) ?_
            refine PW_q rfl rfl (fun wq hq => ev_loads st25 sz25 rfl (cellsB (hq.blk hB7)) rfl) ?_
            refine PW_m rfl rfl (ev_call rfl (toNetwork_spec _ B _ hB (by omega) (by omega))) ?_
            rintro _ w67 ⟨h67, rfl, hF67, hE67⟩
            have hz67 := hE67.size
            replace hE := hE.trans hE67
            replace hDd16 := hDd16.trans hE67
            have hN67 := hF67.is
            refine ⟨hDd16, ?_⟩
            have hA_3 := hA.ext hDd16
            have hB_3 := hB.ext hDd16
            have hB5_3 := hB5.ext hDd16
            have hB7_3 := hB7.ext hDd16
            have hF30_3 := hF30.ext hDd16
            have hN30_3 := hN30.ext hDd16
            have hF33_3 := hF33.ext hDd16
            have hN33_3 := hN33.ext hDd16
            have hF40_3 := hF40.ext hDd16
            have hN40_3 := hN40.ext hDd16
            have hB14_3 := hB14.ext hDd16
            have hF42_3 := hF42.ext hDd16
            have hN42_3 := hN42.ext hDd16
            have hB15_3 := hB15.ext hDd16
            have hF62_3 := hF62.ext hDd16
            have hN62_3 := hN62.ext hDd16
            refine PW_m rfl rfl (ev_call rfl (eqNetwork_spec _ _ B _ hN42_3 hN67 (by omega))) ?_
            rintro _ w68 ⟨rfl, hE68⟩
            have hz68 := hE68.size
            replace hE := hE.trans hE68
            replace hDd16 := hDd16.trans hE68
            replace hF67 := hF67.ext hE68
            replace hN67 := hN67.ext hE68
            refine ⟨hDd16, ?_⟩
            refine PW_q rfl rfl (fun wq hq => ev_not rfl) ?_
            replace hA := hA.ext hDd16
            replace hB := hB.ext hDd16
            replace hB5 := hB5.ext hDd16
            replace hB7 := hB7.ext hDd16
            replace hF30 := hF30.ext hDd16
            replace hN30 := hN30.ext hDd16
            replace hF33 := hF33.ext hDd16
            replace hN33 := hN33.ext hDd16
            replace hF40 := hF40.ext hDd16
            replace hN40 := hN40.ext hDd16
            replace hB14 := hB14.ext hDd16
            replace hF42 := hF42.ext hDd16
            replace hN42 := hN42.ext hDd16
            replace hB15 := hB15.ext hDd16
            replace hF62 := hF62.ext hDd16
            replace hN62 := hN62.ext hDd16
            refine PW_nil ?_
            refine thenE_n ?_
            refine W_cond rfl (fun hg69 => ?_) (fun hg69 => ?_)
            · have hg68 := not_true hg69
              refine W_seq ?_
              refine W_region ?_
              refine WL_q rfl (ev_assign rfl) ?_
              refine WL_nil ?_
              refine thenE_n ?_
              refine W_ret ?_
              refine thenE_r ?_
              refine ret1 rfl rfl ?_
              first | (exact ⟨rfl, hE⟩) | (exact (bneE hg68 (hr49.det1 hr36)).elim) | (exact absurd (hr49.det1 hr36) hp68) | (exact absurd (hr49.det1 hr36) (of_decide_eq_false hg68)) | (exact (bneE hg68 (hr49.det2 hr36)).elim) | (exact absurd (hr49.det2 hr36) hp68) | (exact absurd (hr49.det2 hr36) (of_decide_eq_false hg68)) | (exact (bneE hg68 (hr49.det3 hr36)).elim) | (exact absurd (hr49.det3 hr36) hp68) | (exact absurd (hr49.det3 hr36) (of_decide_eq_false hg68)) | (exact (tfX hg68).elim) | (exact (decF hg68).elim) | (exfalso; omega)
            · have hg68 := not_false hg69
              refine W_skip ?_
              refine thenE_n ?_
              refine W_seq ?_
              refine W_region ?_
              refine WL_q rfl (ev_assign rfl) ?_
              refine WL_nil ?_
              refine thenE_n ?_
              refine W_ret ?_
              refine ret1 rfl rfl ?_
              first | (exact ⟨rfl, hE⟩) | (exact (bneE hg68 (hr49.det1 hr36)).elim) | (exact absurd (hr49.det1 hr36) hp68) | (exact absurd (hr49.det1 hr36) (of_decide_eq_false hg68)) | (exact (bneE hg68 (hr49.det2 hr36)).elim) | (exact absurd (hr49.det2 hr36) hp68) | (exact absurd (hr49.det2 hr36) (of_decide_eq_false hg68)) | (exact (bneE hg68 (hr49.det3 hr36)).elim) | (exact absurd (hr49.det3 hr36) hp68) | (exact absurd (hr49.det3 hr36) (of_decide_eq_false hg68)) | (exact (tfX hg68).elim) | (exact (decF hg68).elim) | (exfalso; omega)

set_option maxRecDepth 100000 in
theorem law_AreTwins (nA : NA) (A : Net) (v : Int) (nB : NA) (B : Net) (x : Int) (w : World) (hA : IsNet 0 w.heap.size w nA A) (hsA : SmN A) (hB : IsNet 0 w.heap.size w nB B) (hsB : SmN B) (hiv : I64 v) (hix : I64 x) :
    Fn Try.prog 4 #[netV nA A, VI v, netV nB B, VI x] w (fun v w' => v = VB true ∧ Ext w w') := by
  have hE := Ext.refl w
  refine Fn_of Try.func4 rfl rfl (by kernel_rfl) rfl ?_
  refine W_seq ?_
  refine W_region ?_
  refine WL_m rfl (ev_box rfl) ?_
  rintro _ w4 ⟨rfl, hN4⟩
  have hz4 := hN4.size
  replace hE := hE.trans hN4.ext
  replace hA := hA.ext hN4.ext
  replace hB := hB.ext hN4.ext
  have hB4 : Blk w4 _ _ [_, _, _] := hN4.blk
  refine WL_m rfl (ev_box rfl) ?_
  rintro _ w6 ⟨rfl, hN6⟩
  have hz6 := hN6.size
  replace hE := hE.trans hN6.ext
  replace hA := hA.ext hN6.ext
  replace hB := hB.ext hN6.ext
  replace hB4 := hB4.ext hN6.ext
  have hB6 : Blk w6 _ _ [_, _, _] := hN6.blk
  refine WL_q rfl (ev_assign rfl) ?_
  refine WL_nil ?_
  refine thenE_n ?_
  refine W_seq ?_
  refine W_region ?_
  refine WL_q rfl (ev_assign rfl) ?_
  refine WL_nil ?_
  refine thenE_n ?_
  refine W_seq ?_
  refine W_region ?_
  refine WL_q rfl (ev_loads st25 sz25 rfl (cellsB hB4) rfl) ?_
  refine WL_q rfl (ev_move rfl) ?_
  refine WL_m rfl (ev_call rfl (szNetwork_spec _ A _ _ hA (by omega) hsA)) ?_
  rintro _ w18 ⟨r18, rfl, hE18, hr18⟩
  have hz18 := hE18.size
  replace hE := hE.trans hE18
  replace hA := hA.ext hE18
  replace hB := hB.ext hE18
  replace hB4 := hB4.ext hE18
  replace hB6 := hB6.ext hE18
  refine WL_q rfl (ev_assign rfl) ?_
  refine WL_nil ?_
  refine thenE_n ?_
  refine W_seq ?_
  refine W_seq ?_
  refine W_region ?_
  refine WL_q rfl (ev_move rfl) ?_
  refine WL_q rfl (ev_lss rfl rfl) ?_
  refine WL_nil ?_
  refine thenE_n ?_
  refine W_cond rfl (fun hg20 => ?_) (fun hg20 => ?_)
  · have hp20 := of_decide_eq_true hg20
    refine W_seq ?_
    refine W_region ?_
    refine WL_q rfl (ev_assign rfl) ?_
    refine WL_nil ?_
    refine thenE_n ?_
    refine W_ret ?_
    refine thenE_r ?_
    refine ret1 rfl rfl ?_
    first | (exact ⟨rfl, hE⟩) | (exact (tfX hg20).elim) | (exact (decF hg20).elim) | (exfalso; omega)
  · have hp20 := of_decide_eq_false hg20
    refine W_skip ?_
    refine thenE_n ?_
    refine W_seq ?_
    refine W_region ?_
    refine WL_q rfl (ev_loads st25 sz25 rfl (cellsB hB6) rfl) ?_
    refine WL_q rfl (ev_move rfl) ?_
    refine WL_m rfl (ev_call rfl (szNetwork_spec _ B _ _ hB (by omega) hsB)) ?_
    rintro _ w23 ⟨r23, rfl, hE23, hr23⟩
    have hz23 := hE23.size
    replace hE := hE.trans hE23
    replace hA := hA.ext hE23
    replace hB := hB.ext hE23
    replace hB4 := hB4.ext hE23
    replace hB6 := hB6.ext hE23
    refine WL_q rfl (ev_assign rfl) ?_
    refine WL_nil ?_
    refine thenE_n ?_
    refine W_seq ?_
    refine W_seq ?_
    refine W_region ?_
    refine WL_q rfl (ev_move rfl) ?_
    refine WL_q rfl (ev_lss rfl rfl) ?_
    refine WL_nil ?_
    refine thenE_n ?_
    refine W_cond rfl (fun hg25 => ?_) (fun hg25 => ?_)
    · have hp25 := of_decide_eq_true hg25
      refine W_seq ?_
      refine W_region ?_
      refine WL_q rfl (ev_assign rfl) ?_
      refine WL_nil ?_
      refine thenE_n ?_
      refine W_ret ?_
      refine thenE_r ?_
      refine ret1 rfl rfl ?_
      first | (exact ⟨rfl, hE⟩) | (exact (tfX hg25).elim) | (exact (decF hg25).elim) | (exfalso; omega)
    · have hp25 := of_decide_eq_false hg25
      refine W_skip ?_
      refine thenE_n ?_
      refine W_seq ?_
      refine W_drawE [(0, true), (2, true), (3, true), (5, true), (1, false), (4, false), (6, false), (7, true), (8, true), (9, true), (10, true), (11, true)] mixed (by kernel_rfl) rfl (by kernel_rfl) ?_
      intro wd8 hEd8 hzd8
      replace hE := hE.trans hEd8
      replace hA := hA.ext hEd8
      replace hB := hB.ext hEd8
      replace hB4 := hB4.ext hEd8
      replace hB6 := hB6.ext hEd8
      have hDd8 := Ext.refl wd8
      refine PW_q rfl rfl (fun wq hq => ev_loads st25 sz25 rfl (cellsB (hq.blk hB4)) rfl) ?_
      refine PW_q rfl rfl (fun wq hq => ev_move rfl) ?_
      refine PW_q rfl rfl (fun wq hq => ev_loads st25 sz25 rfl (cellsB (hq.blk hB6)) rfl) ?_
      refine PW_q rfl rfl (fun wq hq => ev_move rfl) ?_
      refine PW_m rfl rfl (ev_call rfl (toNetwork_spec _ A _ hA (by omega) (by omega))) ?_
      rintro _ w28 ⟨h28, rfl, hF28, hE28⟩
      have hz28 := hE28.size
      replace hE := hE.trans hE28
      replace hDd8 := hDd8.trans hE28
      have hN28 := hF28.is
      refine ⟨hDd8, ?_⟩
      have hA_4 := hA.ext hDd8
      have hB_4 := hB.ext hDd8
      have hB4_4 := hB4.ext hDd8
      have hB6_4 := hB6.ext hDd8
      refine PW_m rfl rfl (ev_call rfl (toNetwork_spec _ B _ hB_4 (by omega) (by omega))) ?_
      rintro _ w31 ⟨h31, rfl, hF31, hE31⟩
      have hz31 := hE31.size
      replace hE := hE.trans hE31
      replace hDd8 := hDd8.trans hE31
      replace hF28 := hF28.ext hE31
      replace hN28 := hN28.ext hE31
      have hN31 := hF31.is
      refine ⟨hDd8, ?_⟩
      have hA_6 := hA.ext hDd8
      have hB_6 := hB.ext hDd8
      have hB4_6 := hB4.ext hDd8
      have hB6_6 := hB6.ext hDd8
      refine PW_m rfl rfl (ev_call rfl (sAreTwins_spec _ A _ _ B _ _ hN28 (by omega) (by omega) hN31 (by omega) (by omega))) ?_
      rintro _ w33 ⟨b33, q33, rfl, hr33, hE33⟩
      have hz33 := hE33.size
      replace hE := hE.trans hE33
      replace hDd8 := hDd8.trans hE33
      replace hF28 := hF28.ext hE33
      replace hN28 := hN28.ext hE33
      replace hF31 := hF31.ext hE33
      replace hN31 := hN31.ext hE33
      refine ⟨hDd8, ?_⟩
      refine PW_q rfl rfl (fun wq hq => ev_move rfl) ?_
      refine PW_q rfl rfl (fun wq hq => ev_extract rfl rfl) ?_
      refine PW_q rfl rfl (fun wq hq => ev_extract rfl rfl) ?_
      refine PW_q rfl rfl (fun wq hq => ev_assign rfl) ?_
      refine PW_q rfl rfl (fun wq hq => ev_assign rfl) ?_
      replace hA := hA.ext hDd8
      replace hB := hB.ext hDd8
      replace hB4 := hB4.ext hDd8
      replace hB6 := hB6.ext hDd8
      refine PW_nil ?_
      refine thenE_n ?_
      refine W_seq ?_
      refine W_region ?_
      refine WL_q rfl (ev_loads st25 sz25 rfl (cellsB hB4) rfl) ?_
      refine WL_m rfl (ev_call rfl (toNetwork_spec _ A _ hA (by omega) (by omega))) ?_
      rintro _ w37 ⟨h37, rfl, hF37, hE37⟩
      have hz37 := hE37.size
      replace hE := hE.trans hE37
      replace hA := hA.ext hE37
      replace hB := hB.ext hE37
      replace hB4 := hB4.ext hE37
      replace hB6 := hB6.ext hE37
      replace hF28 := hF28.ext hE37
      replace hN28 := hN28.ext hE37
      replace hF31 := hF31.ext hE37
      replace hN31 := hN31.ext hE37
      have hN37 := hF37.is
      refine WL_m rfl (ev_alloc zr31) ?_
      rintro _ w12 ⟨rfl, hN12⟩
      have hz12 := hN12.size
      replace hE := hE.trans hN12.ext
      replace hA := hA.ext hN12.ext
      replace hB := hB.ext hN12.ext
      replace hB4 := hB4.ext hN12.ext
      replace hB6 := hB6.ext hN12.ext
      replace hF28 := hF28.ext hN12.ext
      replace hN28 := hN28.ext hN12.ext
      replace hF31 := hF31.ext hN12.ext
      replace hN31 := hN31.ext hN12.ext
      replace hF37 := hF37.ext hN12.ext
      replace hN37 := hN37.ext hN12.ext
      have hB12 : Blk w12 _ _ [_, _, _] := hN12.blk
      refine WL_s (ev_stores sz31 rfl rfl rfl (by simp [Value.oneCell']) hB12 (by simp)) ?_
      rintro _ w9_3 hS9_3
      have hz9_3 := hS9_3.size
      replace hE := hE.sto hS9_3 (by omega)
      replace hA := hA.sto hS9_3 (by omega)
      replace hB := hB.sto hS9_3 (by omega)
      replace hB4 := hB4.sto hS9_3 (by omega)
      replace hB6 := hB6.sto hS9_3 (by omega)
      replace hF28 := hF28.sto hS9_3 (by omega)
      replace hN28 := hN28.sto hS9_3 (by omega)
      replace hF31 := hF31.sto hS9_3 (by omega)
      replace hN31 := hN31.sto hS9_3 (by omega)
      replace hF37 := hF37.sto hS9_3 (by omega)
      replace hN37 := hN37.sto hS9_3 (by omega)
      replace hB12 : Blk w9_3 _ _ [_, _, _] := hS9_3.blk
      refine WL_nil ?_
      refine thenE_n ?_
      refine W_seq ?_
      refine W_region ?_
      refine WL_q rfl (ev_loads st25 sz25 rfl (cellsB hB6) rfl) ?_
      refine WL_m rfl (ev_call rfl (toNetwork_spec _ B _ hB (by omega) (by omega))) ?_
      rintro _ w39 ⟨h39, rfl, hF39, hE39⟩
      have hz39 := hE39.size
      replace hE := hE.trans hE39
      replace hA := hA.ext hE39
      replace hB := hB.ext hE39
      replace hB4 := hB4.ext hE39
      replace hB6 := hB6.ext hE39
      replace hF28 := hF28.ext hE39
      replace hN28 := hN28.ext hE39
      replace hF31 := hF31.ext hE39
      replace hN31 := hN31.ext hE39
      replace hF37 := hF37.ext hE39
      replace hN37 := hN37.ext hE39
      replace hB12 := hB12.ext hE39
      have hN39 := hF39.is
      refine WL_m rfl (ev_alloc zr31) ?_
      rintro _ w13 ⟨rfl, hN13⟩
      have hz13 := hN13.size
      replace hE := hE.trans hN13.ext
      replace hA := hA.ext hN13.ext
      replace hB := hB.ext hN13.ext
      replace hB4 := hB4.ext hN13.ext
      replace hB6 := hB6.ext hN13.ext
      replace hF28 := hF28.ext hN13.ext
      replace hN28 := hN28.ext hN13.ext
      replace hF31 := hF31.ext hN13.ext
      replace hN31 := hN31.ext hN13.ext
      replace hF37 := hF37.ext hN13.ext
      replace hN37 := hN37.ext hN13.ext
      replace hB12 := hB12.ext hN13.ext
      replace hF39 := hF39.ext hN13.ext
      replace hN39 := hN39.ext hN13.ext
      have hB13 : Blk w13 _ _ [_, _, _] := hN13.blk
      refine WL_s (ev_stores sz31 rfl rfl rfl (by simp [Value.oneCell']) hB13 (by simp)) ?_
      rintro _ w10_3 hS10_3
      have hz10_3 := hS10_3.size
      replace hE := hE.sto hS10_3 (by omega)
      replace hA := hA.sto hS10_3 (by omega)
      replace hB := hB.sto hS10_3 (by omega)
      replace hB4 := hB4.sto hS10_3 (by omega)
      replace hB6 := hB6.sto hS10_3 (by omega)
      replace hF28 := hF28.sto hS10_3 (by omega)
      replace hN28 := hN28.sto hS10_3 (by omega)
      replace hF31 := hF31.sto hS10_3 (by omega)
      replace hN31 := hN31.sto hS10_3 (by omega)
      replace hF37 := hF37.sto hS10_3 (by omega)
      replace hN37 := hN37.sto hS10_3 (by omega)
      replace hB12 := hB12.sto hS10_3 (by omega)
      replace hF39 := hF39.sto hS10_3 (by omega)
      replace hN39 := hN39.sto hS10_3 (by omega)
      replace hB13 : Blk w10_3 _ _ [_, _, _] := hS10_3.blk
      refine WL_nil ?_
      refine thenE_n ?_
      refine W_seq ?_
      refine W_region ?_
      refine WL_q rfl (ev_loads st31 sz31 rfl (cellsB hB12) rfl) ?_
      refine WL_q rfl (ev_move rfl) ?_
      refine WL_q rfl (ev_loads st31 sz31 rfl (cellsB hB13) rfl) ?_
      refine WL_q rfl (ev_move rfl) ?_
      refine WL_m rfl (ev_call rfl (AreTwins_spec _ A _ _ B _ _ hN37 (by omega) (by omega) hN39 (by omega) (by omega))) ?_
      rintro _ w45 ⟨b45, q45, rfl, hr45, hE45⟩
      have hz45 := hE45.size
      replace hE := hE.trans hE45
      replace hA := hA.ext hE45
      replace hB := hB.ext hE45
      replace hB4 := hB4.ext hE45
      replace hB6 := hB6.ext hE45
      replace hF28 := hF28.ext hE45
      replace hN28 := hN28.ext hE45
      replace hF31 := hF31.ext hE45
      replace hN31 := hN31.ext hE45
      replace hF37 := hF37.ext hE45
      replace hN37 := hN37.ext hE45
      replace hB12 := hB12.ext hE45
      replace hF39 := hF39.ext hE45
      replace hN39 := hN39.ext hE45
      replace hB13 := hB13.ext hE45
      refine WL_q rfl (ev_move rfl) ?_
      refine WL_q rfl (ev_extract rfl rfl) ?_
      refine WL_q rfl (ev_extract rfl rfl) ?_
      refine WL_q rfl (ev_assign rfl) ?_
      refine WL_q rfl (ev_assign rfl) ?_
      refine WL_nil ?_
      refine thenE_n ?_
      refine W_seq ?_
      refine W_seq ?_
      refine W_region ?_
      refine WL_q rfl (ev_move rfl) ?_
      refine WL_q rfl (ev_move rfl) ?_
      refine WL_q rfl (ev_neq_b Try.underlying4 rfl rfl) ?_
      refine WL_q rfl (ev_move rfl) ?_
      refine WL_splitv (t := 51) rfl (fun hg50 => ?_) (fun hg50 => ?_)
      · refine WL_no rfl rfl hg50 rfl ?_
        refine WL_no rfl rfl hg50 rfl ?_
        refine WL_no rfl rfl hg50 rfl ?_
        refine WL_q rfl (ev_pick_t rfl hg50 rfl) ?_
        refine WL_nil ?_
        refine thenE_n ?_
        refine W_cond_t rfl ?_
        refine W_seq ?_
        refine W_region ?_
        refine WL_q rfl (ev_assign rfl) ?_
        refine WL_nil ?_
        refine thenE_n ?_
        refine W_ret ?_
        refine thenE_r ?_
        refine ret1 rfl rfl ?_
        first | (exact ⟨rfl, hE⟩) | (exact (bneE hg50 (hr45.det1 hr33)).elim) | (exact absurd (hr45.det1 hr33) hp50) | (exact absurd (hr45.det1 hr33) (of_decide_eq_false hg50)) | (exact (bneE hg50 (hr45.det2 hr33)).elim) | (exact absurd (hr45.det2 hr33) hp50) | (exact absurd (hr45.det2 hr33) (of_decide_eq_false hg50)) | (exact (bneE hg50 (hr45.det3 hr33)).elim) | (exact absurd (hr45.det3 hr33) hp50) | (exact absurd (hr45.det3 hr33) (of_decide_eq_false hg50)) | (exact (tfX hg50).elim) | (exact (decF hg50).elim) | (exfalso; omega)
      · refine WL_qg rfl rfl hg50 rfl (ev_move rfl) ?_
        refine WL_qg rfl rfl hg50 rfl (ev_move rfl) ?_
        refine WL_qg rfl rfl hg50 rfl (ev_neq_b Try.underlying4 rfl rfl) ?_
        refine WL_q rfl (ev_pick_f rfl hg50 rfl) ?_
        refine WL_nil ?_
        refine thenE_n ?_
        refine W_cond rfl (fun hg54 => ?_) (fun hg54 => ?_)
        · refine W_seq ?_
          refine W_region ?_
          refine WL_q rfl (ev_assign rfl) ?_
          refine WL_nil ?_
          refine thenE_n ?_
          refine W_ret ?_
          refine thenE_r ?_
          refine ret1 rfl rfl ?_
          first | (exact ⟨rfl, hE⟩) | (exact (bneE hg54 (hr45.det1 hr33)).elim) | (exact absurd (hr45.det1 hr33) hp54) | (exact absurd (hr45.det1 hr33) (of_decide_eq_false hg54)) | (exact (bneE hg54 (hr45.det2 hr33)).elim) | (exact absurd (hr45.det2 hr33) hp54) | (exact absurd (hr45.det2 hr33) (of_decide_eq_false hg54)) | (exact (bneE hg54 (hr45.det3 hr33)).elim) | (exact absurd (hr45.det3 hr33) hp54) | (exact absurd (hr45.det3 hr33) (of_decide_eq_false hg54)) | (exact (tfX hg54).elim) | (exact (decF hg54).elim) | (exfalso; omega)
        · refine W_skip ?_
          refine thenE_n ?_
          refine W_seq ?_
          refine W_seq ?_
          refine W_drawE [(0, true), (1, true), (2, false), (3, false), (4, true)] mixed (by kernel_rfl) rfl (by kernel_rfl) ?_
          intro wd14 hEd14 hzd14
          replace hE := hE.trans hEd14
          replace hA := hA.ext hEd14
          replace hB := hB.ext hEd14
          replace hB4 := hB4.ext hEd14
          replace hB6 := hB6.ext hEd14
          replace hF28 := hF28.ext hEd14
          replace hN28 := hN28.ext hEd14
          replace hF31 := hF31.ext hEd14
          replace hN31 := hN31.ext hEd14
          replace hF37 := hF37.ext hEd14
          replace hN37 := hN37.ext hEd14
          replace hB12 := hB12.ext hEd14
          replace hF39 := hF39.ext hEd14
          replace hN39 := hN39.ext hEd14
          replace hB13 := hB13.ext hEd14
          have hDd14 := Ext.refl wd14
          refine PW_q rfl rfl (fun wq hq => ev_loads st31 sz31 rfl (cellsB (hq.blk hB12)) rfl) ?_
          refine PW_q rfl rfl (fun wq hq => ev_loads st25 sz25 rfl (cellsB (hq.blk hB4)) rfl) ?_
          refine PW_m rfl rfl (ev_call rfl (toNetwork_spec _ A _ hA (by omega) (by omega))) ?_
          rintro _ w58 ⟨h58, rfl, hF58, hE58⟩
          have hz58 := hE58.size
          replace hE := hE.trans hE58
          replace hDd14 := hDd14.trans hE58
          have hN58 := hF58.is
          refine ⟨hDd14, ?_⟩
          have hA_3 := hA.ext hDd14
          have hB_3 := hB.ext hDd14
          have hB4_3 := hB4.ext hDd14
          have hB6_3 := hB6.ext hDd14
          have hF28_3 := hF28.ext hDd14
          have hN28_3 := hN28.ext hDd14
          have hF31_3 := hF31.ext hDd14
          have hN31_3 := hN31.ext hDd14
          have hF37_3 := hF37.ext hDd14
          have hN37_3 := hN37.ext hDd14
          have hB12_3 := hB12.ext hDd14
          have hF39_3 := hF39.ext hDd14
          have hN39_3 := hN39.ext hDd14
          have hB13_3 := hB13.ext hDd14
          refine PW_m rfl rfl (ev_call rfl (eqNetwork_spec _ _ A _ hN37_3 hN58 (by omega))) ?_
          rintro _ w59 ⟨rfl, hE59⟩
          have hz59 := hE59.size
          replace hE := hE.trans hE59
          replace hDd14 := hDd14.trans hE59
          replace hF58 := hF58.ext hE59
          replace hN58 := hN58.ext hE59
          refine ⟨hDd14, ?_⟩
          refine PW_q rfl rfl (fun wq hq => ev_not rfl) ?_
          replace hA := hA.ext hDd14
          replace hB := hB.ext hDd14
          replace hB4 := hB4.ext hDd14
          replace hB6 := hB6.ext hDd14
          replace hF28 := hF28.ext hDd14
          replace hN28 := hN28.ext hDd14
          replace hF31 := hF31.ext hDd14
          replace hN31 := hN31.ext hDd14
          replace hF37 := hF37.ext hDd14
          replace hN37 := hN37.ext hDd14
          replace hB12 := hB12.ext hDd14
          replace hF39 := hF39.ext hDd14
          replace hN39 := hN39.ext hDd14
          replace hB13 := hB13.ext hDd14
          refine PW_nil ?_
          refine thenE_n ?_
          refine W_cond rfl (fun hg60 => ?_) (fun hg60 => ?_)
          · have hg59 := not_true hg60
            refine W_seq ?_
            refine W_region ?_
            refine WL_q rfl (ev_assign rfl) ?_
            refine WL_nil ?_
            refine thenE_n ?_
            refine W_ret ?_
            refine thenE_r ?_
            refine ret1 rfl rfl ?_
            first | (exact ⟨rfl, hE⟩) | (exact (bneE hg59 (hr45.det1 hr33)).elim) | (exact absurd (hr45.det1 hr33) hp59) | (exact absurd (hr45.det1 hr33) (of_decide_eq_false hg59)) | (exact (bneE hg59 (hr45.det2 hr33)).elim) | (exact absurd (hr45.det2 hr33) hp59) | (exact absurd (hr45.det2 hr33) (of_decide_eq_false hg59)) | (exact (bneE hg59 (hr45.det3 hr33)).elim) | (exact absurd (hr45.det3 hr33) hp59) | (exact absurd (hr45.det3 hr33) (of_decide_eq_false hg59)) | (exact (tfX hg59).elim) | (exact (decF hg59).elim) | (exfalso; omega)
          · have hg59 := not_false hg60
            refine W_skip ?_
            refine thenE_n ?_
            refine W_seq ?_
            refine W_seq ?_
            refine W_drawE [(0, true), (1, true), (2, false), (3, false), (4, true)] mixed (by kernel_rfl) rfl (by kernel_rfl) ?_
            intro wd16 hEd16 hzd16
            replace hE := hE.trans hEd16
            replace hA := hA.ext hEd16
            replace hB := hB.ext hEd16
            replace hB4 := hB4.ext hEd16
            replace hB6 := hB6.ext hEd16
            replace hF28 := hF28.ext hEd16
            replace hN28 := hN28.ext hEd16
            replace hF31 := hF31.ext hEd16
            replace hN31 := hN31.ext hEd16
            replace hF37 := hF37.ext hEd16
            replace hN37 := hN37.ext hEd16
            replace hB12 := hB12.ext hEd16
            replace hF39 := hF39.ext hEd16
            replace hN39 := hN39.ext hEd16
            replace hB13 := hB13.ext hEd16
            replace hF58 := hF58.ext hEd16
            replace hN58 := hN58.ext hEd16
            have hDd16 := Ext.refl wd16
            refine PW_q rfl rfl (fun wq hq => ev_loads st31 sz31 rfl (cellsB (hq.blk hB13)) rfl) ?_
            refine PW_q rfl rfl (fun wq hq => ev_loads st25 sz25 rfl (cellsB (hq.blk hB6)) rfl) ?_
            refine PW_m rfl rfl (ev_call rfl (toNetwork_spec _ B _ hB (by omega) (by omega))) ?_
            rintro _ w63 ⟨h63, rfl, hF63, hE63⟩
            have hz63 := hE63.size
            replace hE := hE.trans hE63
            replace hDd16 := hDd16.trans hE63
            have hN63 := hF63.is
            refine ⟨hDd16, ?_⟩
            have hA_3 := hA.ext hDd16
            have hB_3 := hB.ext hDd16
            have hB4_3 := hB4.ext hDd16
            have hB6_3 := hB6.ext hDd16
            have hF28_3 := hF28.ext hDd16
            have hN28_3 := hN28.ext hDd16
            have hF31_3 := hF31.ext hDd16
            have hN31_3 := hN31.ext hDd16
            have hF37_3 := hF37.ext hDd16
            have hN37_3 := hN37.ext hDd16
            have hB12_3 := hB12.ext hDd16
            have hF39_3 := hF39.ext hDd16
            have hN39_3 := hN39.ext hDd16
            have hB13_3 := hB13.ext hDd16
            have hF58_3 := hF58.ext hDd16
            have hN58_3 := hN58.ext hDd16
            refine PW_m rfl rfl (ev_call rfl (eqNetwork_spec _ _ B _ hN39_3 hN63 (by omega))) ?_
            rintro _ w64 ⟨rfl, hE64⟩
            have hz64 := hE64.size
            replace hE := hE.trans hE64
            replace hDd16 := hDd16.trans hE64
            replace hF63 := hF63.ext hE64
            replace hN63 := hN63.ext hE64
            refine ⟨hDd16, ?_⟩
            refine PW_q rfl rfl (fun wq hq => ev_not rfl) ?_
            replace hA := hA.ext hDd16
            replace hB := hB.ext hDd16
            replace hB4 := hB4.ext hDd16
            replace hB6 := hB6.ext hDd16
            replace hF28 := hF28.ext hDd16
            replace hN28 := hN28.ext hDd16
            replace hF31 := hF31.ext hDd16
            replace hN31 := hN31.ext hDd16
            replace hF37 := hF37.ext hDd16
            replace hN37 := hN37.ext hDd16
            replace hB12 := hB12.ext hDd16
            replace hF39 := hF39.ext hDd16
            replace hN39 := hN39.ext hDd16
            replace hB13 := hB13.ext hDd16
            replace hF58 := hF58.ext hDd16
            replace hN58 := hN58.ext hDd16
            refine PW_nil ?_
            refine thenE_n ?_
            refine W_cond rfl (fun hg65 => ?_) (fun hg65 => ?_)
            · have hg64 := not_true hg65
              refine W_seq ?_
              refine W_region ?_
              refine WL_q rfl (ev_assign rfl) ?_
              refine WL_nil ?_
              refine thenE_n ?_
              refine W_ret ?_
              refine thenE_r ?_
              refine ret1 rfl rfl ?_
              first | (exact ⟨rfl, hE⟩) | (exact (bneE hg64 (hr45.det1 hr33)).elim) | (exact absurd (hr45.det1 hr33) hp64) | (exact absurd (hr45.det1 hr33) (of_decide_eq_false hg64)) | (exact (bneE hg64 (hr45.det2 hr33)).elim) | (exact absurd (hr45.det2 hr33) hp64) | (exact absurd (hr45.det2 hr33) (of_decide_eq_false hg64)) | (exact (bneE hg64 (hr45.det3 hr33)).elim) | (exact absurd (hr45.det3 hr33) hp64) | (exact absurd (hr45.det3 hr33) (of_decide_eq_false hg64)) | (exact (tfX hg64).elim) | (exact (decF hg64).elim) | (exfalso; omega)
            · have hg64 := not_false hg65
              refine W_skip ?_
              refine thenE_n ?_
              refine W_seq ?_
              refine W_region ?_
              refine WL_q rfl (ev_assign rfl) ?_
              refine WL_nil ?_
              refine thenE_n ?_
              refine W_ret ?_
              refine ret1 rfl rfl ?_
              first | (exact ⟨rfl, hE⟩) | (exact (bneE hg64 (hr45.det1 hr33)).elim) | (exact absurd (hr45.det1 hr33) hp64) | (exact absurd (hr45.det1 hr33) (of_decide_eq_false hg64)) | (exact (bneE hg64 (hr45.det2 hr33)).elim) | (exact absurd (hr45.det2 hr33) hp64) | (exact absurd (hr45.det2 hr33) (of_decide_eq_false hg64)) | (exact (bneE hg64 (hr45.det3 hr33)).elim) | (exact absurd (hr45.det3 hr33) hp64) | (exact absurd (hr45.det3 hr33) (of_decide_eq_false hg64)) | (exact (tfX hg64).elim) | (exact (decF hg64).elim) | (exfalso; omega)

set_option maxRecDepth 100000 in
theorem law_SeparatingDepth (nA : NA) (A : Net) (v : Int) (nB : NA) (B : Net) (x : Int) (w : World) (hA : IsNet 0 w.heap.size w nA A) (hsA : SmN A) (hB : IsNet 0 w.heap.size w nB B) (hsB : SmN B) (hiv : I64 v) (hix : I64 x) :
    Fn Try.prog 5 #[netV nA A, VI v, netV nB B, VI x] w (fun v w' => v = VB true ∧ Ext w w') := by
  have hE := Ext.refl w
  refine Fn_of Try.func5 rfl rfl (by kernel_rfl) rfl ?_
  refine W_seq ?_
  refine W_region ?_
  refine WL_m rfl (ev_box rfl) ?_
  rintro _ w4 ⟨rfl, hN4⟩
  have hz4 := hN4.size
  replace hE := hE.trans hN4.ext
  replace hA := hA.ext hN4.ext
  replace hB := hB.ext hN4.ext
  have hB4 : Blk w4 _ _ [_, _, _] := hN4.blk
  refine WL_m rfl (ev_box rfl) ?_
  rintro _ w6 ⟨rfl, hN6⟩
  have hz6 := hN6.size
  replace hE := hE.trans hN6.ext
  replace hA := hA.ext hN6.ext
  replace hB := hB.ext hN6.ext
  replace hB4 := hB4.ext hN6.ext
  have hB6 : Blk w6 _ _ [_, _, _] := hN6.blk
  refine WL_q rfl (ev_assign rfl) ?_
  refine WL_nil ?_
  refine thenE_n ?_
  refine W_seq ?_
  refine W_region ?_
  refine WL_q rfl (ev_assign rfl) ?_
  refine WL_nil ?_
  refine thenE_n ?_
  refine W_seq ?_
  refine W_region ?_
  refine WL_q rfl (ev_loads st25 sz25 rfl (cellsB hB4) rfl) ?_
  refine WL_q rfl (ev_move rfl) ?_
  refine WL_m rfl (ev_call rfl (szNetwork_spec _ A _ _ hA (by omega) hsA)) ?_
  rintro _ w18 ⟨r18, rfl, hE18, hr18⟩
  have hz18 := hE18.size
  replace hE := hE.trans hE18
  replace hA := hA.ext hE18
  replace hB := hB.ext hE18
  replace hB4 := hB4.ext hE18
  replace hB6 := hB6.ext hE18
  refine WL_q rfl (ev_assign rfl) ?_
  refine WL_nil ?_
  refine thenE_n ?_
  refine W_seq ?_
  refine W_seq ?_
  refine W_region ?_
  refine WL_q rfl (ev_move rfl) ?_
  refine WL_q rfl (ev_lss rfl rfl) ?_
  refine WL_nil ?_
  refine thenE_n ?_
  refine W_cond rfl (fun hg20 => ?_) (fun hg20 => ?_)
  · have hp20 := of_decide_eq_true hg20
    refine W_seq ?_
    refine W_region ?_
    refine WL_q rfl (ev_assign rfl) ?_
    refine WL_nil ?_
    refine thenE_n ?_
    refine W_ret ?_
    refine thenE_r ?_
    refine ret1 rfl rfl ?_
    first | (exact ⟨rfl, hE⟩) | (exact (tfX hg20).elim) | (exact (decF hg20).elim) | (exfalso; omega)
  · have hp20 := of_decide_eq_false hg20
    refine W_skip ?_
    refine thenE_n ?_
    refine W_seq ?_
    refine W_region ?_
    refine WL_q rfl (ev_loads st25 sz25 rfl (cellsB hB6) rfl) ?_
    refine WL_q rfl (ev_move rfl) ?_
    refine WL_m rfl (ev_call rfl (szNetwork_spec _ B _ _ hB (by omega) hsB)) ?_
    rintro _ w23 ⟨r23, rfl, hE23, hr23⟩
    have hz23 := hE23.size
    replace hE := hE.trans hE23
    replace hA := hA.ext hE23
    replace hB := hB.ext hE23
    replace hB4 := hB4.ext hE23
    replace hB6 := hB6.ext hE23
    refine WL_q rfl (ev_assign rfl) ?_
    refine WL_nil ?_
    refine thenE_n ?_
    refine W_seq ?_
    refine W_seq ?_
    refine W_region ?_
    refine WL_q rfl (ev_move rfl) ?_
    refine WL_q rfl (ev_lss rfl rfl) ?_
    refine WL_nil ?_
    refine thenE_n ?_
    refine W_cond rfl (fun hg25 => ?_) (fun hg25 => ?_)
    · have hp25 := of_decide_eq_true hg25
      refine W_seq ?_
      refine W_region ?_
      refine WL_q rfl (ev_assign rfl) ?_
      refine WL_nil ?_
      refine thenE_n ?_
      refine W_ret ?_
      refine thenE_r ?_
      refine ret1 rfl rfl ?_
      first | (exact ⟨rfl, hE⟩) | (exact (tfX hg25).elim) | (exact (decF hg25).elim) | (exfalso; omega)
    · have hp25 := of_decide_eq_false hg25
      refine W_skip ?_
      refine thenE_n ?_
      refine W_seq ?_
      refine W_drawE [(0, true), (2, true), (3, true), (5, true), (1, false), (4, false), (6, false), (7, true), (8, true), (9, true), (10, true), (11, true)] mixed (by kernel_rfl) rfl (by kernel_rfl) ?_
      intro wd8 hEd8 hzd8
      replace hE := hE.trans hEd8
      replace hA := hA.ext hEd8
      replace hB := hB.ext hEd8
      replace hB4 := hB4.ext hEd8
      replace hB6 := hB6.ext hEd8
      have hDd8 := Ext.refl wd8
      refine PW_q rfl rfl (fun wq hq => ev_loads st25 sz25 rfl (cellsB (hq.blk hB4)) rfl) ?_
      refine PW_q rfl rfl (fun wq hq => ev_move rfl) ?_
      refine PW_q rfl rfl (fun wq hq => ev_loads st25 sz25 rfl (cellsB (hq.blk hB6)) rfl) ?_
      refine PW_q rfl rfl (fun wq hq => ev_move rfl) ?_
      refine PW_m rfl rfl (ev_call rfl (toNetwork_spec _ A _ hA (by omega) (by omega))) ?_
      rintro _ w28 ⟨h28, rfl, hF28, hE28⟩
      have hz28 := hE28.size
      replace hE := hE.trans hE28
      replace hDd8 := hDd8.trans hE28
      have hN28 := hF28.is
      refine ⟨hDd8, ?_⟩
      have hA_4 := hA.ext hDd8
      have hB_4 := hB.ext hDd8
      have hB4_4 := hB4.ext hDd8
      have hB6_4 := hB6.ext hDd8
      refine PW_m rfl rfl (ev_call rfl (toNetwork_spec _ B _ hB_4 (by omega) (by omega))) ?_
      rintro _ w31 ⟨h31, rfl, hF31, hE31⟩
      have hz31 := hE31.size
      replace hE := hE.trans hE31
      replace hDd8 := hDd8.trans hE31
      replace hF28 := hF28.ext hE31
      replace hN28 := hN28.ext hE31
      have hN31 := hF31.is
      refine ⟨hDd8, ?_⟩
      have hA_6 := hA.ext hDd8
      have hB_6 := hB.ext hDd8
      have hB4_6 := hB4.ext hDd8
      have hB6_6 := hB6.ext hDd8
      refine PW_m rfl rfl (ev_call rfl (sSepDepth_spec _ A _ _ B _ _ hN28 (by omega) (by omega) hN31 (by omega) (by omega))) ?_
      rintro _ w33 ⟨r33, q33, rfl, hr33, hE33⟩
      have hz33 := hE33.size
      replace hE := hE.trans hE33
      replace hDd8 := hDd8.trans hE33
      replace hF28 := hF28.ext hE33
      replace hN28 := hN28.ext hE33
      replace hF31 := hF31.ext hE33
      replace hN31 := hN31.ext hE33
      refine ⟨hDd8, ?_⟩
      refine PW_q rfl rfl (fun wq hq => ev_move rfl) ?_
      refine PW_q rfl rfl (fun wq hq => ev_extract rfl rfl) ?_
      refine PW_q rfl rfl (fun wq hq => ev_extract rfl rfl) ?_
      refine PW_q rfl rfl (fun wq hq => ev_assign rfl) ?_
      refine PW_q rfl rfl (fun wq hq => ev_assign rfl) ?_
      replace hA := hA.ext hDd8
      replace hB := hB.ext hDd8
      replace hB4 := hB4.ext hDd8
      replace hB6 := hB6.ext hDd8
      refine PW_nil ?_
      refine thenE_n ?_
      refine W_seq ?_
      refine W_region ?_
      refine WL_q rfl (ev_loads st25 sz25 rfl (cellsB hB4) rfl) ?_
      refine WL_m rfl (ev_call rfl (toNetwork_spec _ A _ hA (by omega) (by omega))) ?_
      rintro _ w37 ⟨h37, rfl, hF37, hE37⟩
      have hz37 := hE37.size
      replace hE := hE.trans hE37
      replace hA := hA.ext hE37
      replace hB := hB.ext hE37
      replace hB4 := hB4.ext hE37
      replace hB6 := hB6.ext hE37
      replace hF28 := hF28.ext hE37
      replace hN28 := hN28.ext hE37
      replace hF31 := hF31.ext hE37
      replace hN31 := hN31.ext hE37
      have hN37 := hF37.is
      refine WL_m rfl (ev_alloc zr31) ?_
      rintro _ w12 ⟨rfl, hN12⟩
      have hz12 := hN12.size
      replace hE := hE.trans hN12.ext
      replace hA := hA.ext hN12.ext
      replace hB := hB.ext hN12.ext
      replace hB4 := hB4.ext hN12.ext
      replace hB6 := hB6.ext hN12.ext
      replace hF28 := hF28.ext hN12.ext
      replace hN28 := hN28.ext hN12.ext
      replace hF31 := hF31.ext hN12.ext
      replace hN31 := hN31.ext hN12.ext
      replace hF37 := hF37.ext hN12.ext
      replace hN37 := hN37.ext hN12.ext
      have hB12 : Blk w12 _ _ [_, _, _] := hN12.blk
      refine WL_s (ev_stores sz31 rfl rfl rfl (by simp [Value.oneCell']) hB12 (by simp)) ?_
      rintro _ w9_3 hS9_3
      have hz9_3 := hS9_3.size
      replace hE := hE.sto hS9_3 (by omega)
      replace hA := hA.sto hS9_3 (by omega)
      replace hB := hB.sto hS9_3 (by omega)
      replace hB4 := hB4.sto hS9_3 (by omega)
      replace hB6 := hB6.sto hS9_3 (by omega)
      replace hF28 := hF28.sto hS9_3 (by omega)
      replace hN28 := hN28.sto hS9_3 (by omega)
      replace hF31 := hF31.sto hS9_3 (by omega)
      replace hN31 := hN31.sto hS9_3 (by omega)
      replace hF37 := hF37.sto hS9_3 (by omega)
      replace hN37 := hN37.sto hS9_3 (by omega)
      replace hB12 : Blk w9_3 _ _ [_, _, _] := hS9_3.blk
      refine WL_nil ?_
      refine thenE_n ?_
      refine W_seq ?_
      refine W_region ?_
      refine WL_q rfl (ev_loads st25 sz25 rfl (cellsB hB6) rfl) ?_
      refine WL_m rfl (ev_call rfl (toNetwork_spec _ B _ hB (by omega) (by omega))) ?_
      rintro _ w39 ⟨h39, rfl, hF39, hE39⟩
      have hz39 := hE39.size
      replace hE := hE.trans hE39
      replace hA := hA.ext hE39
      replace hB := hB.ext hE39
      replace hB4 := hB4.ext hE39
      replace hB6 := hB6.ext hE39
      replace hF28 := hF28.ext hE39
      replace hN28 := hN28.ext hE39
      replace hF31 := hF31.ext hE39
      replace hN31 := hN31.ext hE39
      replace hF37 := hF37.ext hE39
      replace hN37 := hN37.ext hE39
      replace hB12 := hB12.ext hE39
      have hN39 := hF39.is
      refine WL_m rfl (ev_alloc zr31) ?_
      rintro _ w13 ⟨rfl, hN13⟩
      have hz13 := hN13.size
      replace hE := hE.trans hN13.ext
      replace hA := hA.ext hN13.ext
      replace hB := hB.ext hN13.ext
      replace hB4 := hB4.ext hN13.ext
      replace hB6 := hB6.ext hN13.ext
      replace hF28 := hF28.ext hN13.ext
      replace hN28 := hN28.ext hN13.ext
      replace hF31 := hF31.ext hN13.ext
      replace hN31 := hN31.ext hN13.ext
      replace hF37 := hF37.ext hN13.ext
      replace hN37 := hN37.ext hN13.ext
      replace hB12 := hB12.ext hN13.ext
      replace hF39 := hF39.ext hN13.ext
      replace hN39 := hN39.ext hN13.ext
      have hB13 : Blk w13 _ _ [_, _, _] := hN13.blk
      refine WL_s (ev_stores sz31 rfl rfl rfl (by simp [Value.oneCell']) hB13 (by simp)) ?_
      rintro _ w10_3 hS10_3
      have hz10_3 := hS10_3.size
      replace hE := hE.sto hS10_3 (by omega)
      replace hA := hA.sto hS10_3 (by omega)
      replace hB := hB.sto hS10_3 (by omega)
      replace hB4 := hB4.sto hS10_3 (by omega)
      replace hB6 := hB6.sto hS10_3 (by omega)
      replace hF28 := hF28.sto hS10_3 (by omega)
      replace hN28 := hN28.sto hS10_3 (by omega)
      replace hF31 := hF31.sto hS10_3 (by omega)
      replace hN31 := hN31.sto hS10_3 (by omega)
      replace hF37 := hF37.sto hS10_3 (by omega)
      replace hN37 := hN37.sto hS10_3 (by omega)
      replace hB12 := hB12.sto hS10_3 (by omega)
      replace hF39 := hF39.sto hS10_3 (by omega)
      replace hN39 := hN39.sto hS10_3 (by omega)
      replace hB13 : Blk w10_3 _ _ [_, _, _] := hS10_3.blk
      refine WL_nil ?_
      refine thenE_n ?_
      refine W_seq ?_
      refine W_region ?_
      refine WL_q rfl (ev_loads st31 sz31 rfl (cellsB hB12) rfl) ?_
      refine WL_q rfl (ev_move rfl) ?_
      refine WL_q rfl (ev_loads st31 sz31 rfl (cellsB hB13) rfl) ?_
      refine WL_q rfl (ev_move rfl) ?_
      refine WL_m rfl (ev_call rfl (SepDepth_spec _ A _ _ B _ _ hN37 (by omega) (by omega) hN39 (by omega) (by omega))) ?_
      rintro _ w45 ⟨r45, q45, rfl, hr45, hE45⟩
      have hz45 := hE45.size
      replace hE := hE.trans hE45
      replace hA := hA.ext hE45
      replace hB := hB.ext hE45
      replace hB4 := hB4.ext hE45
      replace hB6 := hB6.ext hE45
      replace hF28 := hF28.ext hE45
      replace hN28 := hN28.ext hE45
      replace hF31 := hF31.ext hE45
      replace hN31 := hN31.ext hE45
      replace hF37 := hF37.ext hE45
      replace hN37 := hN37.ext hE45
      replace hB12 := hB12.ext hE45
      replace hF39 := hF39.ext hE45
      replace hN39 := hN39.ext hE45
      replace hB13 := hB13.ext hE45
      refine WL_q rfl (ev_move rfl) ?_
      refine WL_q rfl (ev_extract rfl rfl) ?_
      refine WL_q rfl (ev_extract rfl rfl) ?_
      refine WL_q rfl (ev_assign rfl) ?_
      refine WL_q rfl (ev_assign rfl) ?_
      refine WL_nil ?_
      refine thenE_n ?_
      refine W_seq ?_
      refine W_seq ?_
      refine W_region ?_
      refine WL_q rfl (ev_move rfl) ?_
      refine WL_q rfl (ev_move rfl) ?_
      refine WL_q rfl (ev_neq rfl rfl) ?_
      refine WL_q rfl (ev_move rfl) ?_
      refine WL_splitv (t := 51) rfl (fun hg50 => ?_) (fun hg50 => ?_)
      · have hp50 := of_decide_eq_true hg50
        refine WL_no rfl rfl hg50 rfl ?_
        refine WL_no rfl rfl hg50 rfl ?_
        refine WL_no rfl rfl hg50 rfl ?_
        refine WL_q rfl (ev_pick_t rfl hg50 rfl) ?_
        refine WL_nil ?_
        refine thenE_n ?_
        refine W_cond_t rfl ?_
        refine W_seq ?_
        refine W_region ?_
        refine WL_q rfl (ev_assign rfl) ?_
        refine WL_nil ?_
        refine thenE_n ?_
        refine W_ret ?_
        refine thenE_r ?_
        refine ret1 rfl rfl ?_
        first | (exact ⟨rfl, hE⟩) | (exact (bneE hg50 (hr45.det1 hr33)).elim) | (exact absurd (hr45.det1 hr33) hp50) | (exact absurd (hr45.det1 hr33) (of_decide_eq_false hg50)) | (exact (bneE hg50 (hr45.det2 hr33)).elim) | (exact absurd (hr45.det2 hr33) hp50) | (exact absurd (hr45.det2 hr33) (of_decide_eq_false hg50)) | (exact (bneE hg50 (hr45.det3 hr33)).elim) | (exact absurd (hr45.det3 hr33) hp50) | (exact absurd (hr45.det3 hr33) (of_decide_eq_false hg50)) | (exact (tfX hg50).elim) | (exact (decF hg50).elim) | (exfalso; omega)
      · have hp50 := of_decide_eq_false hg50
        refine WL_qg rfl rfl hg50 rfl (ev_move rfl) ?_
        refine WL_qg rfl rfl hg50 rfl (ev_move rfl) ?_
        refine WL_qg rfl rfl hg50 rfl (ev_neq_b Try.underlying4 rfl rfl) ?_
        refine WL_q rfl (ev_pick_f rfl hg50 rfl) ?_
        refine WL_nil ?_
        refine thenE_n ?_
        refine W_cond rfl (fun hg54 => ?_) (fun hg54 => ?_)
        · refine W_seq ?_
          refine W_region ?_
          refine WL_q rfl (ev_assign rfl) ?_
          refine WL_nil ?_
          refine thenE_n ?_
          refine W_ret ?_
          refine thenE_r ?_
          refine ret1 rfl rfl ?_
          first | (exact ⟨rfl, hE⟩) | (exact (bneE hg54 (hr45.det1 hr33)).elim) | (exact absurd (hr45.det1 hr33) hp54) | (exact absurd (hr45.det1 hr33) (of_decide_eq_false hg54)) | (exact (bneE hg54 (hr45.det2 hr33)).elim) | (exact absurd (hr45.det2 hr33) hp54) | (exact absurd (hr45.det2 hr33) (of_decide_eq_false hg54)) | (exact (bneE hg54 (hr45.det3 hr33)).elim) | (exact absurd (hr45.det3 hr33) hp54) | (exact absurd (hr45.det3 hr33) (of_decide_eq_false hg54)) | (exact (tfX hg54).elim) | (exact (decF hg54).elim) | (exfalso; omega)
        · refine W_skip ?_
          refine thenE_n ?_
          refine W_seq ?_
          refine W_seq ?_
          refine W_drawE [(0, true), (1, true), (2, false), (3, false), (4, true)] mixed (by kernel_rfl) rfl (by kernel_rfl) ?_
          intro wd14 hEd14 hzd14
          replace hE := hE.trans hEd14
          replace hA := hA.ext hEd14
          replace hB := hB.ext hEd14
          replace hB4 := hB4.ext hEd14
          replace hB6 := hB6.ext hEd14
          replace hF28 := hF28.ext hEd14
          replace hN28 := hN28.ext hEd14
          replace hF31 := hF31.ext hEd14
          replace hN31 := hN31.ext hEd14
          replace hF37 := hF37.ext hEd14
          replace hN37 := hN37.ext hEd14
          replace hB12 := hB12.ext hEd14
          replace hF39 := hF39.ext hEd14
          replace hN39 := hN39.ext hEd14
          replace hB13 := hB13.ext hEd14
          have hDd14 := Ext.refl wd14
          refine PW_q rfl rfl (fun wq hq => ev_loads st31 sz31 rfl (cellsB (hq.blk hB12)) rfl) ?_
          refine PW_q rfl rfl (fun wq hq => ev_loads st25 sz25 rfl (cellsB (hq.blk hB4)) rfl) ?_
          refine PW_m rfl rfl (ev_call rfl (toNetwork_spec _ A _ hA (by omega) (by omega))) ?_
          rintro _ w58 ⟨h58, rfl, hF58, hE58⟩
          have hz58 := hE58.size
          replace hE := hE.trans hE58
          replace hDd14 := hDd14.trans hE58
          have hN58 := hF58.is
          refine ⟨hDd14, ?_⟩
          have hA_3 := hA.ext hDd14
          have hB_3 := hB.ext hDd14
          have hB4_3 := hB4.ext hDd14
          have hB6_3 := hB6.ext hDd14
          have hF28_3 := hF28.ext hDd14
          have hN28_3 := hN28.ext hDd14
          have hF31_3 := hF31.ext hDd14
          have hN31_3 := hN31.ext hDd14
          have hF37_3 := hF37.ext hDd14
          have hN37_3 := hN37.ext hDd14
          have hB12_3 := hB12.ext hDd14
          have hF39_3 := hF39.ext hDd14
          have hN39_3 := hN39.ext hDd14
          have hB13_3 := hB13.ext hDd14
          refine PW_m rfl rfl (ev_call rfl (eqNetwork_spec _ _ A _ hN37_3 hN58 (by omega))) ?_
          rintro _ w59 ⟨rfl, hE59⟩
          have hz59 := hE59.size
          replace hE := hE.trans hE59
          replace hDd14 := hDd14.trans hE59
          replace hF58 := hF58.ext hE59
          replace hN58 := hN58.ext hE59
          refine ⟨hDd14, ?_⟩
          refine PW_q rfl rfl (fun wq hq => ev_not rfl) ?_
          replace hA := hA.ext hDd14
          replace hB := hB.ext hDd14
          replace hB4 := hB4.ext hDd14
          replace hB6 := hB6.ext hDd14
          replace hF28 := hF28.ext hDd14
          replace hN28 := hN28.ext hDd14
          replace hF31 := hF31.ext hDd14
          replace hN31 := hN31.ext hDd14
          replace hF37 := hF37.ext hDd14
          replace hN37 := hN37.ext hDd14
          replace hB12 := hB12.ext hDd14
          replace hF39 := hF39.ext hDd14
          replace hN39 := hN39.ext hDd14
          replace hB13 := hB13.ext hDd14
          refine PW_nil ?_
          refine thenE_n ?_
          refine W_cond rfl (fun hg60 => ?_) (fun hg60 => ?_)
          · have hg59 := not_true hg60
            refine W_seq ?_
            refine W_region ?_
            refine WL_q rfl (ev_assign rfl) ?_
            refine WL_nil ?_
            refine thenE_n ?_
            refine W_ret ?_
            refine thenE_r ?_
            refine ret1 rfl rfl ?_
            first | (exact ⟨rfl, hE⟩) | (exact (bneE hg59 (hr45.det1 hr33)).elim) | (exact absurd (hr45.det1 hr33) hp59) | (exact absurd (hr45.det1 hr33) (of_decide_eq_false hg59)) | (exact (bneE hg59 (hr45.det2 hr33)).elim) | (exact absurd (hr45.det2 hr33) hp59) | (exact absurd (hr45.det2 hr33) (of_decide_eq_false hg59)) | (exact (bneE hg59 (hr45.det3 hr33)).elim) | (exact absurd (hr45.det3 hr33) hp59) | (exact absurd (hr45.det3 hr33) (of_decide_eq_false hg59)) | (exact (tfX hg59).elim) | (exact (decF hg59).elim) | (exfalso; omega)
          · have hg59 := not_false hg60
            refine W_skip ?_
            refine thenE_n ?_
            refine W_seq ?_
            refine W_seq ?_
            refine W_drawE [(0, true), (1, true), (2, false), (3, false), (4, true)] mixed (by kernel_rfl) rfl (by kernel_rfl) ?_
            intro wd16 hEd16 hzd16
            replace hE := hE.trans hEd16
            replace hA := hA.ext hEd16
            replace hB := hB.ext hEd16
            replace hB4 := hB4.ext hEd16
            replace hB6 := hB6.ext hEd16
            replace hF28 := hF28.ext hEd16
            replace hN28 := hN28.ext hEd16
            replace hF31 := hF31.ext hEd16
            replace hN31 := hN31.ext hEd16
            replace hF37 := hF37.ext hEd16
            replace hN37 := hN37.ext hEd16
            replace hB12 := hB12.ext hEd16
            replace hF39 := hF39.ext hEd16
            replace hN39 := hN39.ext hEd16
            replace hB13 := hB13.ext hEd16
            replace hF58 := hF58.ext hEd16
            replace hN58 := hN58.ext hEd16
            have hDd16 := Ext.refl wd16
            refine PW_q rfl rfl (fun wq hq => ev_loads st31 sz31 rfl (cellsB (hq.blk hB13)) rfl) ?_
            refine PW_q rfl rfl (fun wq hq => ev_loads st25 sz25 rfl (cellsB (hq.blk hB6)) rfl) ?_
            refine PW_m rfl rfl (ev_call rfl (toNetwork_spec _ B _ hB (by omega) (by omega))) ?_
            rintro _ w63 ⟨h63, rfl, hF63, hE63⟩
            have hz63 := hE63.size
            replace hE := hE.trans hE63
            replace hDd16 := hDd16.trans hE63
            have hN63 := hF63.is
            refine ⟨hDd16, ?_⟩
            have hA_3 := hA.ext hDd16
            have hB_3 := hB.ext hDd16
            have hB4_3 := hB4.ext hDd16
            have hB6_3 := hB6.ext hDd16
            have hF28_3 := hF28.ext hDd16
            have hN28_3 := hN28.ext hDd16
            have hF31_3 := hF31.ext hDd16
            have hN31_3 := hN31.ext hDd16
            have hF37_3 := hF37.ext hDd16
            have hN37_3 := hN37.ext hDd16
            have hB12_3 := hB12.ext hDd16
            have hF39_3 := hF39.ext hDd16
            have hN39_3 := hN39.ext hDd16
            have hB13_3 := hB13.ext hDd16
            have hF58_3 := hF58.ext hDd16
            have hN58_3 := hN58.ext hDd16
            refine PW_m rfl rfl (ev_call rfl (eqNetwork_spec _ _ B _ hN39_3 hN63 (by omega))) ?_
            rintro _ w64 ⟨rfl, hE64⟩
            have hz64 := hE64.size
            replace hE := hE.trans hE64
            replace hDd16 := hDd16.trans hE64
            replace hF63 := hF63.ext hE64
            replace hN63 := hN63.ext hE64
            refine ⟨hDd16, ?_⟩
            refine PW_q rfl rfl (fun wq hq => ev_not rfl) ?_
            replace hA := hA.ext hDd16
            replace hB := hB.ext hDd16
            replace hB4 := hB4.ext hDd16
            replace hB6 := hB6.ext hDd16
            replace hF28 := hF28.ext hDd16
            replace hN28 := hN28.ext hDd16
            replace hF31 := hF31.ext hDd16
            replace hN31 := hN31.ext hDd16
            replace hF37 := hF37.ext hDd16
            replace hN37 := hN37.ext hDd16
            replace hB12 := hB12.ext hDd16
            replace hF39 := hF39.ext hDd16
            replace hN39 := hN39.ext hDd16
            replace hB13 := hB13.ext hDd16
            replace hF58 := hF58.ext hDd16
            replace hN58 := hN58.ext hDd16
            refine PW_nil ?_
            refine thenE_n ?_
            refine W_cond rfl (fun hg65 => ?_) (fun hg65 => ?_)
            · have hg64 := not_true hg65
              refine W_seq ?_
              refine W_region ?_
              refine WL_q rfl (ev_assign rfl) ?_
              refine WL_nil ?_
              refine thenE_n ?_
              refine W_ret ?_
              refine thenE_r ?_
              refine ret1 rfl rfl ?_
              first | (exact ⟨rfl, hE⟩) | (exact (bneE hg64 (hr45.det1 hr33)).elim) | (exact absurd (hr45.det1 hr33) hp64) | (exact absurd (hr45.det1 hr33) (of_decide_eq_false hg64)) | (exact (bneE hg64 (hr45.det2 hr33)).elim) | (exact absurd (hr45.det2 hr33) hp64) | (exact absurd (hr45.det2 hr33) (of_decide_eq_false hg64)) | (exact (bneE hg64 (hr45.det3 hr33)).elim) | (exact absurd (hr45.det3 hr33) hp64) | (exact absurd (hr45.det3 hr33) (of_decide_eq_false hg64)) | (exact (tfX hg64).elim) | (exact (decF hg64).elim) | (exfalso; omega)
            · have hg64 := not_false hg65
              refine W_skip ?_
              refine thenE_n ?_
              refine W_seq ?_
              refine W_region ?_
              refine WL_q rfl (ev_assign rfl) ?_
              refine WL_nil ?_
              refine thenE_n ?_
              refine W_ret ?_
              refine ret1 rfl rfl ?_
              first | (exact ⟨rfl, hE⟩) | (exact (bneE hg64 (hr45.det1 hr33)).elim) | (exact absurd (hr45.det1 hr33) hp64) | (exact absurd (hr45.det1 hr33) (of_decide_eq_false hg64)) | (exact (bneE hg64 (hr45.det2 hr33)).elim) | (exact absurd (hr45.det2 hr33) hp64) | (exact absurd (hr45.det2 hr33) (of_decide_eq_false hg64)) | (exact (bneE hg64 (hr45.det3 hr33)).elim) | (exact absurd (hr45.det3 hr33) hp64) | (exact absurd (hr45.det3 hr33) (of_decide_eq_false hg64)) | (exact (tfX hg64).elim) | (exact (decF hg64).elim) | (exfalso; omega)

end Go.Proofs.Ytoeencgofelgoaa
