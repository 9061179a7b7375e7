/- Contract of spec.UnfoldNetwork. -/
import Derived.Test.YtladejfcplpnaaaUnf3
namespace Go.Proofs.Ytladejfcplpnaaa
open Go Go.RowKit

section
variable {P : Program} {L : Env} {ty T : TypeId} {w : World} {x y z : Operand} {v u t : Value}
theorem ev_buildP3 {n i j k : Nat} {zs : List Value} (hn : structN P T n = true) (hz : zero? P T = some (.agg zs.toArray)) (hi : Nat.blt i n = true) (hj : Nat.blt j n = true) (hk : Nat.blt k n = true) (hx : ev L x = some v) (hy : ev L y = some u) (hq : ev L z = some t) (h1 : v.cells = #[v]) (h2 : u.cells = #[u]) (h3 : t.cells = #[t]) : EvR P L (.build T #[(i, x), (j, y), (k, z)]) ty w (.agg (((zs.set i v).set j u).set k t).toArray) :=
  ev_buildP (parts := [(i, x), (j, y), (k, z)]) (l := [(i, v), (j, u), (k, t)]) hn hz (fun ρ h => by simp [h _ _ hx, h _ _ hy, h _ _ hq]) (fun p hp => by simp at hp; rcases hp with rfl | rfl | rfl; exact ⟨Nat.le_of_ble_eq_true hi, h1⟩; exact ⟨Nat.le_of_ble_eq_true hj, h2⟩; exact ⟨Nat.le_of_ble_eq_true hk, h3⟩)
theorem ev_build5 {p q : Operand} {v3 v4 v5 : Value} (hn : structN P T 5 = true) (hx : ev L x = some v) (hy : ev L y = some u) (hz : ev L z = some v3) (hq : ev L p = some v4) (hr : ev L q = some v5) (h1 : v.cells = #[v]) (h2 : u.cells = #[u]) (h3 : v3.cells = #[v3]) (h4 : v4.cells = #[v4]) (h5 : v5.cells = #[v5]) : EvR P L (.build T #[(0, x), (1, y), (2, z), (3, p), (4, q)]) ty w (.agg #[v, u, v3, v4, v5]) :=
  ev_build (xs := [x, y, z, p, q]) (l := [v, u, v3, v4, v5]) hn (by simp [evs, hx, hy, hz, hq, hr]) (by intro a ha; simp at ha; rcases ha with rfl | rfl | rfl | rfl | rfl <;> assumption)
end
section
variable {A : Net} {v d : Int} {i k j : Nat} {z y : Wk} {X W : List Wk}
theorem own5_kid {l r p q n n' c : Nat} {w : World} {E : TypeId} {a : Option Addr} {x b e : Int} (h : OwnH l r p q w E 5 a n c (wc c5 X ++ [VI x, VI b, VI e, VI (i : Int), VI (k : Int)])) (hx : (kidW A.ends i z k).x = x ∧ (kidW A.ends i z k).q = b) (he : e = z.t + 1) (hn : n = n') : OwnH l r p q w E 5 a n' c (wc c5 (X ++ [kidW A.ends i z k])) := by
  subst hn
  rw [wc_snoc]
  have e9 : c5 (kidW A.ends i z k) = [VI x, VI b, VI e, VI (i : Int), VI (k : Int)] := by
    show [VI (kidW A.ends i z k).x, VI (kidW A.ends i z k).q, VI (z.t + 1), VI (i : Int), VI (k : Int)] = _
    rw [hx.1, hx.2, he]
  rw [e9]; exact h
theorem RZ_take (hw : W[j]? = some y) : RZ A.ends d (W.take (j + 1)) = RZ A.ends d (W.take j) ++ [zrW A.ends d y] := by rw [take_snoc? hw]; simp [RZ]
theorem inp_take (hw : W[j]? = some y) : (W.take (j + 1)).map (inpW A) = (W.take j).map (inpW A) ++ [inpW A y] := by rw [take_snoc? hw]; simp
theorem RS_0 : RS A.ends d W 0 = RZ A.ends d W := by simp [RS, RI]
theorem zl_in (h : y.t < d) (hx : y.x.toNat < A.ends.length) : zlW A.ends d y = A.ends[y.x.toNat].length := by
  unfold zlW
  rw [if_pos h, rowE_at hx]
theorem zl_one (h : ¬ y.t < d) (h0 : 0 < d) : zlW A.ends d y = 1 := by
  unfold zlW
  rw [if_neg h, if_pos h0]
theorem zl_nil (h : ¬ y.t < d) (h0 : ¬ 0 < d) : zlW A.ends d y = 0 := by
  unfold zlW
  rw [if_neg h, if_neg h0]
theorem inpW_at (h : y.x.toNat < A.inputs.length) : inpW A y = A.inputs[y.x.toNat] := getD_eq h
theorem qFW_t (h : y.t = d) : (0 : Int) = qFW d y := (show qFW d y = 0 from if_pos h).symm
theorem qFW_f (h : ¬ y.t = d) : y.q = qFW d y := (show qFW d y = y.q from if_neg h).symm
end

set_option maxHeartbeats 4000000 in
set_option maxRecDepth 100000 in
theorem sUnfoldNetwork_spec {loA hiA : Nat} (nA : NA) (A : Net) (v : Int) (d : Int) (w : World) (hA : IsNet loA hiA w nA A) (hhiA : hiA ≤ w.heap.size) (hnA : totN A ≤ 1048576) :
    Fn Try.prog 22 #[netV nA A, VI v, VI d] w (fun o9 w' => ∃ h' U q, o9 = .tuple #[netV h' U, VB q] ∧ RV (⟨[], [], []⟩ : Net) (opt (UOk A v d) (unfN A v d)) U q ∧ IsNet 0 w'.heap.size w' h' U ∧ totN U ≤ 1048576 ∧ Ext w w') := by
  have hqA := totL_len A.ends
  have hmA : totL A.ends + A.ids.length + A.inputs.length ≤ 1048576 := hnA
  have hE := Ext.refl w
  refine Fn_of Try.func22 rfl rfl (by kernel_rfl) rfl ?_
  refine W_seq ?_
  refine W_region ?_
  refine WL_m rfl (ev_box rfl) ?_
  rintro _ w3 ⟨rfl, hN3⟩
  have hz3 := hN3.size
  replace hE := hE.trans hN3.ext
  replace hA := hA.ext hN3.ext
  have hB3 : Blk w3 _ _ [_, _, _] := hN3.blk
  refine WL_m rfl (ev_alloc zr31) ?_
  rintro _ w6 ⟨rfl, hN6⟩
  have hz6 := hN6.size
  replace hE := hE.trans hN6.ext
  replace hA := hA.ext hN6.ext
  replace hB3 := hB3.ext hN6.ext
  have hB6 : Blk w6 _ _ [_, _, _] := hN6.blk
  refine WL_q rfl (ev_assign rfl) ?_
  refine WL_nil ?_
  refine thenE_n ?_
  refine W_seq ?_
  refine W_seq ?_
  refine W_region ?_
  refine WL_q rfl (ev_loads st31 sz31 rfl (cellsB hB3) rfl) ?_
  refine WL_q rfl (ev_move rfl) ?_
  refine WL_m rfl (ev_call rfl (neNode_spec _ A _ _ hA (by omega) (by omega))) ?_
  rintro _ w22 ⟨b22, rfl, hb22, hE22⟩
  have hz22 := hE22.size
  replace hE := hE.trans hE22
  replace hA := hA.ext hE22
  replace hB3 := hB3.ext hE22
  replace hB6 := hB6.ext hE22
  refine WL_q rfl (ev_not rfl) ?_
  refine WL_q rfl (ev_move rfl) ?_
  refine WL_splitv (t := 24) rfl (fun hg23 => ?_) (fun hg23 => ?_)
  · have hg22 := not_true hg23
    have hp22 := ttN hb22 hg22
    refine WL_no rfl rfl hg23 rfl ?_
    refine WL_no rfl rfl hg23 rfl ?_
    refine WL_no rfl rfl hg23 rfl ?_
    refine WL_q rfl (ev_pick_t rfl hg23 rfl) ?_
    refine WL_nil ?_
    refine thenE_n ?_
    refine W_cond_t rfl ?_
    refine W_seq ?_
    refine W_region ?_
    refine WL_q rfl (ev_buildP0 sn31_3 zr31 ) ?_
    refine WL_s (ev_stores sz31 rfl rfl rfl (by simp [Value.oneCell']) hB6 (by simp)) ?_
    rintro _ w2_1 hS2_1
    have hz2_1 := hS2_1.size
    replace hE := hE.sto hS2_1 (by omega)
    replace hA := hA.sto hS2_1 (by omega)
    replace hB3 := hB3.sto hS2_1 (by omega)
    replace hB6 : Blk w2_1 _ _ [_, _, _] := hS2_1.blk
    refine WL_q rfl (ev_assign rfl) ?_
    refine WL_nil ?_
    refine thenE_n ?_
    refine W_ret ?_
    refine thenE_r ?_
    refine retc2 rfl rfl st31 sz31 (cellsB hB6) rfl rfl ?_
    first | (exact ⟨⟨none, 0, none, 0, none, 0⟩, ⟨[], [], []⟩, _, rfl, .no (fun h => hp22 h.1), ⟨Nest.nil, Ints.nil, Ints.nil⟩, by decide, hE⟩) | (exact ⟨⟨none, 0, none, 0, none, 0⟩, ⟨[], [], []⟩, _, rfl, .no (fun h => hp26 h.2.1), ⟨Nest.nil, Ints.nil, Ints.nil⟩, by decide, hE⟩) | (exact ⟨⟨none, 0, none, 0, none, 0⟩, ⟨[], [], []⟩, _, rfl, .no (fun h => absurd h.2.2 (Nat.not_le.2 (uN_big (i := i + 1) (by rw [e9]; omega) (by omega)))), ⟨Nest.nil, Ints.nil, Ints.nil⟩, by decide, hE⟩) | (exact ⟨⟨a1, c1, none, 0, a3, c3⟩, unfN A v d, _, by unfold netV; rw [hl8, hl7]; rfl, .yes hUO rfl, hN9.is.mono (by omega) (by omega), NOk.tot (unfN_ok hUO), hE⟩)
  · have hg22 := not_false hg23
    have hp22 := hb22.1 hg22
    refine WL_qg rfl rfl hg23 rfl (ev_move rfl) ?_
    refine WL_mg rfl rfl hg23 rfl (ev_call rfl (viDepth_spec _ _)) ?_
    rintro _ _ ⟨rfl, rfl⟩
    refine WL_qg rfl rfl hg23 rfl (ev_not rfl) ?_
    refine WL_q rfl (ev_pick_f rfl hg23 rfl) ?_
    refine WL_nil ?_
    refine thenE_n ?_
    refine W_cond rfl (fun hg27 => ?_) (fun hg27 => ?_)
    · have hg26 := not_true hg27
      have hp26 := inR_false.1 hg26
      refine W_seq ?_
      refine W_region ?_
      refine WL_q rfl (ev_buildP0 sn31_3 zr31 ) ?_
      refine WL_s (ev_stores sz31 rfl rfl rfl (by simp [Value.oneCell']) hB6 (by simp)) ?_
      rintro _ w2_1 hS2_1
      have hz2_1 := hS2_1.size
      replace hE := hE.sto hS2_1 (by omega)
      replace hA := hA.sto hS2_1 (by omega)
      replace hB3 := hB3.sto hS2_1 (by omega)
      replace hB6 : Blk w2_1 _ _ [_, _, _] := hS2_1.blk
      refine WL_q rfl (ev_assign rfl) ?_
      refine WL_nil ?_
      refine thenE_n ?_
      refine W_ret ?_
      refine thenE_r ?_
      refine retc2 rfl rfl st31 sz31 (cellsB hB6) rfl rfl ?_
      first | (exact ⟨⟨none, 0, none, 0, none, 0⟩, ⟨[], [], []⟩, _, rfl, .no (fun h => hp22 h.1), ⟨Nest.nil, Ints.nil, Ints.nil⟩, by decide, hE⟩) | (exact ⟨⟨none, 0, none, 0, none, 0⟩, ⟨[], [], []⟩, _, rfl, .no (fun h => hp26 h.2.1), ⟨Nest.nil, Ints.nil, Ints.nil⟩, by decide, hE⟩) | (exact ⟨⟨none, 0, none, 0, none, 0⟩, ⟨[], [], []⟩, _, rfl, .no (fun h => absurd h.2.2 (Nat.not_le.2 (uN_big (i := i + 1) (by rw [e9]; omega) (by omega)))), ⟨Nest.nil, Ints.nil, Ints.nil⟩, by decide, hE⟩) | (exact ⟨⟨a1, c1, none, 0, a3, c3⟩, unfN A v d, _, by unfold netV; rw [hl8, hl7]; rfl, .yes hUO rfl, hN9.is.mono (by omega) (by omega), NOk.tot (unfN_ok hUO), hE⟩)
    · have hg26 := not_false hg27
      have hp26 := inR_true.1 hg26
      refine W_skip ?_
      refine thenE_n ?_
      refine W_seq ?_
      refine W_region ?_
      refine WL_q rfl (ev_move rfl) ?_
      refine WL_q rfl (ev_buildP3 sn74_5 zr74 rfl rfl rfl rfl rfl rfl rfl rfl rfl) ?_
      have hNN := hp22
      have hkA := hp22.1
      have hHv := hp22.2
      have hndA := hkA.nodes
      have hinA := hkA.inLen
      have h6 := hkA.six
      have hv1 := hHv.1
      have hv2 := hHv.2
      have hd1 := hp26.1
      have hd2 := hp26.2
      refine WL_m rfl (ev_lit1 Try.underlying75 el74 (by decide) (by decide) rfl rfl) ?_
      rintro _ w32 ⟨rfl, hN32⟩
      have hz32 := hN32.size
      replace hE := hE.trans hN32.ext
      replace hA := hA.ext hN32.ext
      replace hB3 := hB3.ext hN32.ext
      replace hB6 := hB6.ext hN32.ext
      have hB32 := hN32.blk
      have hO0 : OwnH w22.heap.size w32.heap.size 0 0 w32 74 5 (some ⟨w22.heap.size, 0, none⟩) 1 1 (wc c5 [rootW v]) := (Own.of_new (n := 1) (sz := 5) hN32 rfl (by unfold maxLen; omega)).h
      refine WL_q rfl (ev_assign rfl) ?_
      refine WL_nil ?_
      refine thenE_n ?_
      refine W_seq ?_
      refine W_seq ?_
      refine W_region ?_
      refine WL_q rfl (ev_assign rfl) ?_
      refine WL_nil ?_
      refine thenE_n ?_
      refine W_block ?_
      refine W_loopC (G := Nat × Option Addr × Nat) [(2, _), (3, _), (6, _)] ((Subs.c rfl (Subs.c rfl (Subs.c rfl Subs.n)))) (fun ⟨i, aw, cw⟩ => [(8, .slice aw (uN A.ends v d i).length cw), (9, VI (i : Int))]) (fun ⟨i, aw, cw⟩ w' => Lo (w22.heap.size) w32 w' ∧ i ≤ (uN A.ends v d i).length ∧ (uN A.ends v d i).length ≤ 40 ∧ OwnH w22.heap.size w'.heap.size 0 0 w' 74 5 aw (uN A.ends v d i).length cw (wc c5 (uN A.ends v d i))) (fun g => 41 - g.1) (0, some ⟨w22.heap.size, 0, none⟩, 1) ((Subs.c rfl (Subs.c (lkI rfl (by omega)) Subs.n))) (⟨Lo.refl (by omega), ⟨Nat.zero_le _, by rw [uN_zero]; simp, hO0⟩⟩) ?_
      rintro ⟨i, aw, cw⟩ wL0 ⟨hRL0, hi', h40, hO⟩
      have hzL0 := hRL0.size
      replace hA := hA.lo hRL0 (by omega)
      replace hB3 := hB3.lo hRL0 (by omega)
      replace hB6 := hB6.lo hRL0 (by omega)
      replace hE := hE.lo hRL0 (by omega)
      refine W_seq ?_
      refine W_seq ?_
      refine W_region ?_
      refine WL_q rfl (ev_move rfl) ?_
      refine WL_q rfl (ev_move rfl) ?_
      refine WL_q rfl (ev_len Try.underlying75 rfl) ?_
      refine WL_q rfl (ev_lss rfl rfl) ?_
      refine WL_nil ?_
      refine thenE_n ?_
      refine W_cond rfl (fun hg36 => ?_) (fun hg36 => ?_)
      · have hp36 := of_decide_eq_true hg36
        refine W_skip ?_
        refine thenE_n ?_
        refine W_seq ?_
        refine W_block ?_
        refine W_seq ?_
        refine W_region ?_
        refine WL_q rfl (ev_move rfl) ?_
        refine WL_q rfl (ev_move rfl) ?_
        have hilt : i < (uN A.ends v d i).length := by omega
        obtain ⟨z, hz⟩ : ∃ z, (uN A.ends v d i)[i]? = some z := ⟨_, List.getElem?_eq_getElem hilt⟩
        have hWA := hO.1.wa (fun _ => rfl) rfl
        have hUI := UI.runN hkA.endsOk hHv hd1 i hi'
        obtain ⟨hz1, hz2, hz3, hz4⟩ := hUI.node i z hz
        refine WL_q rfl (ev_indexAddr Try.underlying75 sz74 rfl rfl (hWA.isSome (by omega)) (by omega) (by omega)) ?_
        refine WL_q rfl (ev_loads st74 sz74 rfl (hWA.at5 hz) rfl) ?_
        refine WL_m rfl (ev_alloc zr74) ?_
        rintro _ w10 ⟨rfl, hN10⟩
        have hz10 := hN10.size
        replace hE := hE.trans hN10.ext
        replace hRL0 := hRL0.trans hN10.ext
        replace hA := hA.ext hN10.ext
        replace hB3 := hB3.ext hN10.ext
        replace hB6 := hB6.ext hN10.ext
        replace hO := hO.ext hN10.ext
        have hB10 : Blk w10 _ _ [_, _, _, _, _] := hN10.blk
        refine WL_s (ev_stores sz74 rfl rfl rfl (by simp [Value.oneCell']) hB10 (by simp)) ?_
        rintro _ w7_5 hS7_5
        have hz7_5 := hS7_5.size
        replace hE := hE.sto hS7_5 (by omega)
        replace hRL0 := hRL0.sto hS7_5 (by omega)
        replace hA := hA.sto hS7_5 (by omega)
        replace hB3 := hB3.sto hS7_5 (by omega)
        replace hB6 := hB6.sto hS7_5 (by omega)
        replace hO := hO.sto hS7_5 (by omega)
        replace hB10 : Blk w7_5 _ _ [_, _, _, _, _] := hS7_5.blk
        refine WL_nil ?_
        refine thenE_n ?_
        refine W_seq ?_
        refine W_seq ?_
        refine W_region ?_
        refine WL_q rfl (ev_fieldAddr fo74_2 rfl) ?_
        refine WL_q rfl (ev_load one3 rfl (hB10.cell rfl)) ?_
        refine WL_q rfl (ev_move rfl) ?_
        refine WL_q rfl (ev_eql rfl rfl) ?_
        refine WL_nil ?_
        refine thenE_n ?_
        refine W_cond rfl (fun hg46 => ?_) (fun hg46 => ?_)
        · have hp46 := of_decide_eq_true hg46
          refine W_exit ?_
          refine thenE_x ?_
          refine blockE_hit ?_
          refine thenE_n ?_
          refine W_region ?_
          refine WL_q rfl (ev_move rfl) ?_
          refine WL_q rfl (ev_add rfl rfl (by omega)) ?_
          refine WL_q rfl (ev_assign rfl) ?_
          refine WL_nil ?_
          refine thenE_n ?_
          have e9 := uN_leaf hz hp46
          exact ⟨(i + 1, aw, cw), (Subs.c rfl (Subs.c rfl (Subs.c rfl Subs.n))), (Subs.c (lkS rfl (by rw [e9])) (Subs.c (lkI rfl (by omega)) Subs.n)), ⟨hRL0, ⟨by rw [e9]; omega, by rw [e9]; omega, by rw [e9]; exact hO.up (Nat.le_refl _) (by omega)⟩⟩, by first | omega | (dsimp only; omega)⟩
        · have hp46 := of_decide_eq_false hg46
          refine W_skip ?_
          refine thenE_n ?_
          refine W_seq ?_
          refine W_seq ?_
          refine W_region ?_
          refine WL_q rfl (ev_fieldAddr fo31_0 rfl) ?_
          refine WL_q rfl (ev_load one29 rfl (hB3.cell rfl)) ?_
          refine WL_q rfl (ev_fieldAddr fo74_0 rfl) ?_
          refine WL_q rfl (ev_load one3 rfl (hB10.cell rfl)) ?_
          have hl51 : z.x.toNat < A.ends.length := by omega
          have ht51 := totL_le hl51
          obtain ⟨a51, c51, hc51, hr51⟩ := hA.ends.row hl51
          refine WL_q rfl (ev_indexAddr Try.underlying29 sz56 rfl rfl (hA.ends.isSome (by omega)) (by omega) (by omega)) ?_
          refine WL_q rfl (ev_load one56 rfl (hc51)) ?_
          refine WL_q rfl (ev_len Try.underlying56 rfl) ?_
          refine WL_q rfl (ev_move rfl) ?_
          refine WL_nil ?_
          refine thenE_n ?_
          refine W_block ?_
          have ht9 : z.t < d := by omega
          refine W_loopC (G := Nat × Option Addr × Nat) [(2, _), (3, _), (6, _), (9, _), (10, _), (52, _), (53, _)] ((Subs.c rfl (Subs.c rfl (Subs.c rfl (Subs.c rfl (Subs.c rfl (Subs.c rfl (Subs.c rfl Subs.n)))))))) (fun ⟨k, aw2, cw2⟩ => [(8, .slice aw2 (uK A.ends i z (uN A.ends v d i) k).length cw2), (54, VI (k : Int))]) (fun ⟨k, aw2, cw2⟩ w' => Rg w22.heap.size w7_5.heap.size wL0.heap.size (wL0.heap.size + 1) w7_5 w' ∧ k ≤ A.ends[z.x.toNat].length ∧ OwnH w22.heap.size w'.heap.size wL0.heap.size (wL0.heap.size + 1) w' 74 5 aw2 (uK A.ends i z (uN A.ends v d i) k).length cw2 (wc c5 (uK A.ends i z (uN A.ends v d i) k))) (fun g => A.ends[z.x.toNat].length - g.1) (0, aw, cw) ((Subs.c rfl (Subs.c (lkI rfl (by omega)) Subs.n))) (⟨Rg.refl, ⟨Nat.zero_le _, (hO.hole (by omega)).up (Nat.le_refl _) (by omega)⟩⟩) ?_
          rintro ⟨k, aw2, cw2⟩ wL2 ⟨hRL2, hk', hO⟩
          have hzL2 := hRL2.size
          replace hA := hA.rg hRL2 (by omega)
          replace hB3 := hB3.rg hRL2 (by omega)
          replace hB6 := hB6.rg hRL2 (by omega)
          replace hB10 := hB10.rg hRL2 (by omega)
          replace hr51 := hr51.rg hRL2 (by omega)
          replace hE := hE.rg hRL2 (by omega)
          replace hRL0 := hRL0.rg hRL2 (by omega)
          have hkb := uK_len (ends := A.ends) (i := i) (w := z) (W := (uN A.ends v d i)) (k := k)
          refine W_seq ?_
          refine W_region ?_
          refine WL_q rfl (ev_lss rfl rfl) ?_
          refine WL_nil ?_
          refine thenE_n ?_
          refine W_seq ?_
          refine W_cond rfl (fun hg55 => ?_) (fun hg55 => ?_)
          · have hp55 := of_decide_eq_true hg55
            refine W_skip ?_
            refine thenE_n ?_
            refine W_seq ?_
            refine W_block ?_
            refine W_seq ?_
            refine W_region ?_
            refine WL_q rfl (ev_move rfl) ?_
            have hlk : k < A.ends[z.x.toNat].length := by omega
            obtain ⟨he1, he2, he3, he4, he5⟩ := hkA.endOk hl51 hlk
            have h6e := h6 _ (List.getElem_mem hl51)
            have hkx := kid_x (i := i) hl51 hlk
            refine WL_q rfl (ev_indexAddr Try.underlying56 sz61 rfl rfl (hr51.isSome (by omega)) (by omega) (by omega)) ?_
            refine WL_q rfl (ev_loads st61 sz61 rfl (hr51.cells (i := k) (by omega)) rfl) ?_
            refine WL_m rfl (ev_alloc zr61) ?_
            rintro _ w12 ⟨rfl, hN12⟩
            have hz12 := hN12.size
            replace hE := hE.trans hN12.ext
            replace hRL0 := hRL0.trans hN12.ext
            replace hRL2 := hRL2.trans hN12.ext
            replace hA := hA.ext hN12.ext
            replace hB3 := hB3.ext hN12.ext
            replace hB6 := hB6.ext hN12.ext
            replace hB10 := hB10.ext hN12.ext
            replace hr51 := hr51.ext hN12.ext
            replace hO := hO.ext hN12.ext
            have hB12 : Blk w12 _ _ [_, _] := hN12.blk
            refine WL_q rfl (ev_assign rfl) ?_
            refine WL_s (ev_stores sz61 rfl rfl rfl (by simp [Value.oneCell']) hB12 (by simp)) ?_
            rintro _ w11_5 hS11_5
            have hz11_5 := hS11_5.size
            replace hE := hE.sto hS11_5 (by omega)
            replace hRL0 := hRL0.sto hS11_5 (by omega)
            replace hRL2 := hRL2.sto hS11_5 (by omega)
            replace hA := hA.sto hS11_5 (by omega)
            replace hB3 := hB3.sto hS11_5 (by omega)
            replace hB6 := hB6.sto hS11_5 (by omega)
            replace hB10 := hB10.sto hS11_5 (by omega)
            replace hr51 := hr51.sto hS11_5 (by omega)
            replace hO := hO.sto hS11_5 (by omega)
            replace hB12 : Blk w11_5 _ _ [_, _] := hS11_5.blk
            refine WL_nil ?_
            refine thenE_n ?_
            refine W_seq ?_
            refine W_region ?_
            refine WL_q rfl (ev_move rfl) ?_
            refine WL_q rfl (ev_fieldAddr fo74_1 rfl) ?_
            refine WL_q rfl (ev_load one3 rfl (hB10.cell rfl)) ?_
            refine WL_q rfl (ev_neq rfl rfl) ?_
            refine WL_nil ?_
            refine thenE_n ?_
            refine W_cond rfl (fun hg62 => ?_) (fun hg62 => ?_)
            · have hp62 := of_decide_eq_true hg62
              refine W_region ?_
              refine WL_q rfl (ev_move rfl) ?_
              refine WL_q rfl (ev_fieldAddr fo61_0 rfl) ?_
              refine WL_q rfl (ev_load one3 rfl (hB12.cell rfl)) ?_
              refine WL_q rfl (ev_fieldAddr fo61_1 rfl) ?_
              refine WL_q rfl (ev_load one3 rfl (hB12.cell rfl)) ?_
              refine WL_q rfl (ev_fieldAddr fo74_2 rfl) ?_
              refine WL_q rfl (ev_load one3 rfl (hB10.cell rfl)) ?_
              refine WL_q rfl (ev_add rfl rfl (by omega)) ?_
              refine WL_q rfl (ev_move rfl) ?_
              refine WL_q rfl (ev_move rfl) ?_
              refine WL_q rfl (ev_build5 sn74_5 rfl rfl rfl rfl rfl rfl rfl rfl rfl rfl) ?_
              refine WL_m rfl (ev_lit1 Try.underlying75 el74 (by decide) (by decide) rfl rfl) ?_
              rintro _ w74 ⟨rfl, hN74⟩
              have hz74 := hN74.size
              replace hE := hE.trans hN74.ext
              replace hRL0 := hRL0.trans hN74.ext
              replace hRL2 := hRL2.trans hN74.ext
              replace hA := hA.ext hN74.ext
              replace hB3 := hB3.ext hN74.ext
              replace hB6 := hB6.ext hN74.ext
              replace hB10 := hB10.ext hN74.ext
              replace hr51 := hr51.ext hN74.ext
              replace hO := hO.ext hN74.ext
              replace hB12 := hB12.ext hN74.ext
              have hB74 := hN74.blk
              refine WL_m rfl (ev_appendT Try.underlying75 el74 rfl (by decide) rfl rfl hO (SAt.of_blk (cs := [_, _, _, _, _]) (ds := []) hB74) rfl (by simp [Value.oneCell']) (by omega) (by unfold maxLen; omega) (by omega)) ?_
              rintro _ w75 ⟨a75, c75, rfl, hO75, hK75, hQ75⟩
              have hz75 := hK75.size
              replace hE := hE.rg hK75 (by omega)
              replace hRL0 := hRL0.rg hK75 (by omega)
              replace hRL2 := hRL2.rg hK75 (by omega)
              replace hA := hA.rg hK75 (by omega)
              replace hB3 := hB3.rg hK75 (by omega)
              replace hB6 := hB6.rg hK75 (by omega)
              replace hB10 := hB10.rg hK75 (by omega)
              replace hr51 := hr51.rg hK75 (by omega)
              replace hB12 := hB12.rg hK75 (by omega)
              replace hO := hO75
              refine WL_q rfl (ev_assign rfl) ?_
              refine WL_nil ?_
              refine blockE_n ?_
              refine thenE_n ?_
              refine W_region ?_
              refine WL_q rfl (ev_add rfl rfl (by omega)) ?_
              refine WL_q rfl (ev_move rfl) ?_
              refine WL_nil ?_
              refine thenE_n ?_
              have e9 : (uK A.ends i z (uN A.ends v d i) (k + 1)) = (uK A.ends i z (uN A.ends v d i) k) ++ [(kidW A.ends i z k)] := uK_new hp62
              exact ⟨(k + 1, a75, c75), (Subs.c rfl (Subs.c rfl (Subs.c rfl (Subs.c rfl (Subs.c rfl (Subs.c rfl (Subs.c rfl Subs.n))))))), (Subs.c (lkS rfl (by rw [e9, List.length_append]; rfl)) (Subs.c (lkI rfl (by omega)) Subs.n)), ⟨hRL2, ⟨by omega, by rw [e9]; exact own5_kid hO hkx rfl (by rw [List.length_append]; rfl)⟩⟩, by first | omega | (dsimp only; omega)⟩
            · have hp62 := of_decide_eq_false hg62
              refine W_skip ?_
              refine blockE_n ?_
              refine thenE_n ?_
              refine W_region ?_
              refine WL_q rfl (ev_add rfl rfl (by omega)) ?_
              refine WL_q rfl (ev_move rfl) ?_
              refine WL_nil ?_
              refine thenE_n ?_
              have e9 : (uK A.ends i z (uN A.ends v d i) (k + 1)) = (uK A.ends i z (uN A.ends v d i) k) := uK_skip (by omega)
              exact ⟨(k + 1, aw2, cw2), (Subs.c rfl (Subs.c rfl (Subs.c rfl (Subs.c rfl (Subs.c rfl (Subs.c rfl (Subs.c rfl Subs.n))))))), (Subs.c (lkS rfl (by rw [e9])) (Subs.c (lkI rfl (by omega)) Subs.n)), ⟨hRL2, ⟨by omega, by rw [e9]; exact hO.up (Nat.le_refl _) (by omega)⟩⟩, by first | omega | (dsimp only; omega)⟩
          · have hp55 := of_decide_eq_false hg55
            refine W_exit ?_
            refine thenE_x ?_
            refine thenE_x ?_
            refine blockE_hit ?_
            refine thenE_n ?_
            refine W_seq ?_
            refine W_region ?_
            have hk9 : k = (rowE A.ends z.x).length := by rw [rowE_at hl51]; omega
            have e9 : uN A.ends v d (i + 1) = (uK A.ends i z (uN A.ends v d i) k) := by rw [hk9]; exact uN_some hz (by omega)
            refine WL_q rfl (ev_move rfl) ?_
            refine WL_q rfl (ev_len Try.underlying75 rfl) ?_
            refine WL_q rfl (ev_gtr rfl rfl) ?_
            refine WL_nil ?_
            refine thenE_n ?_
            refine W_cond rfl (fun hg79 => ?_) (fun hg79 => ?_)
            · have hp79 := of_decide_eq_true hg79
              refine W_seq ?_
              refine W_region ?_
              refine WL_q rfl (ev_buildP0 sn31_3 zr31 ) ?_
              refine WL_s (ev_stores sz31 rfl rfl rfl (by simp [Value.oneCell']) hB6 (by simp)) ?_
              rintro _ w16_1 hS16_1
              have hz16_1 := hS16_1.size
              replace hE := hE.sto hS16_1 (by omega)
              replace hA := hA.sto hS16_1 (by omega)
              replace hB3 := hB3.sto hS16_1 (by omega)
              replace hB10 := hB10.sto hS16_1 (by omega)
              replace hr51 := hr51.sto hS16_1 (by omega)
              replace hO := hO.sto hS16_1 (by omega)
              replace hB6 : Blk w16_1 _ _ [_, _, _] := hS16_1.blk
              refine WL_q rfl (ev_assign rfl) ?_
              refine WL_nil ?_
              refine thenE_n ?_
              refine W_ret ?_
              refine blockE_r ?_
              refine thenE_r ?_
              refine thenE_r ?_
              refine blockE_r ?_
              refine thenE_r ?_
              refine retc2 rfl rfl st31 sz31 (cellsB hB6) rfl rfl ?_
              first | (exact ⟨⟨none, 0, none, 0, none, 0⟩, ⟨[], [], []⟩, _, rfl, .no (fun h => hp22 h.1), ⟨Nest.nil, Ints.nil, Ints.nil⟩, by decide, hE⟩) | (exact ⟨⟨none, 0, none, 0, none, 0⟩, ⟨[], [], []⟩, _, rfl, .no (fun h => hp26 h.2.1), ⟨Nest.nil, Ints.nil, Ints.nil⟩, by decide, hE⟩) | (exact ⟨⟨none, 0, none, 0, none, 0⟩, ⟨[], [], []⟩, _, rfl, .no (fun h => absurd h.2.2 (Nat.not_le.2 (uN_big (i := i + 1) (by rw [e9]; omega) (by omega)))), ⟨Nest.nil, Ints.nil, Ints.nil⟩, by decide, hE⟩) | (exact ⟨⟨a1, c1, none, 0, a3, c3⟩, unfN A v d, _, by unfold netV; rw [hl8, hl7]; rfl, .yes hUO rfl, hN9.is.mono (by omega) (by omega), NOk.tot (unfN_ok hUO), hE⟩)
            · have hp79 := of_decide_eq_false hg79
              refine W_skip ?_
              refine blockE_n ?_
              refine thenE_n ?_
              refine W_region ?_
              refine WL_q rfl (ev_move rfl) ?_
              refine WL_q rfl (ev_add rfl rfl (by omega)) ?_
              refine WL_q rfl (ev_assign rfl) ?_
              refine WL_nil ?_
              refine thenE_n ?_
              have hkl9 : (uN A.ends v d i).length ≤ (uK A.ends i z (uN A.ends v d i) k).length := (uK_le (ends := A.ends) (i := i) (w := z) (W := (uN A.ends v d i)) (Nat.zero_le k)).length_le
              exact ⟨(i + 1, aw2, cw2), (Subs.c rfl (Subs.c rfl (Subs.c rfl Subs.n))), (Subs.c (lkS rfl (by rw [e9])) (Subs.c (lkI rfl (by omega)) Subs.n)), ⟨hRL0, ⟨by rw [e9]; omega, by rw [e9]; omega, by rw [e9]; exact (hO.hole (by omega)).up (Nat.le_refl _) (by omega)⟩⟩, by first | omega | (dsimp only; omega)⟩
      · have hp36 := of_decide_eq_false hg36
        refine W_exit ?_
        refine thenE_x ?_
        refine thenE_x ?_
        refine blockE_hit ?_
        refine thenE_n ?_
        refine W_seq ?_
        refine W_region ?_
        have hl9 : (uN A.ends v d i).length ≤ i := by omega
        have e9 := uN_done hl9 (by omega)
        have hUO : UOk A v d := ⟨hNN, hp26, by rw [e9]; omega⟩
        have hUI := UI.runN hkA.endsOk hHv hd1 i hi'
        refine WL_q rfl (ev_buildP0 sn31_3 zr31 ) ?_
        refine WL_m rfl (ev_alloc zr31) ?_
        rintro _ w13 ⟨rfl, hN13⟩
        have hz13 := hN13.size
        replace hE := hE.trans hN13.ext
        replace hA := hA.ext hN13.ext
        replace hB3 := hB3.ext hN13.ext
        replace hB6 := hB6.ext hN13.ext
        replace hO := hO.ext hN13.ext
        have hB13 : Blk w13 _ _ [_, _, _] := hN13.blk
        refine WL_s (ev_stores sz31 rfl rfl rfl (by simp [Value.oneCell']) hB13 (by simp)) ?_
        rintro _ w17_2 hS17_2
        have hz17_2 := hS17_2.size
        replace hE := hE.sto hS17_2 (by omega)
        replace hA := hA.sto hS17_2 (by omega)
        replace hB3 := hB3.sto hS17_2 (by omega)
        replace hB6 := hB6.sto hS17_2 (by omega)
        replace hO := hO.sto hS17_2 (by omega)
        replace hB13 : Blk w17_2 _ _ [_, _, _] := hS17_2.blk
        refine WL_nil ?_
        refine thenE_n ?_
        refine W_seq ?_
        refine W_seq ?_
        refine W_region ?_
        refine WL_q rfl (ev_move rfl) ?_
        refine WL_q rfl (ev_len Try.underlying75 rfl) ?_
        refine WL_q rfl (ev_move rfl) ?_
        refine WL_nil ?_
        refine thenE_n ?_
        refine W_block ?_
        refine W_loopC (G := Nat × Option Addr × Nat × Option Addr × Nat × List (Option Addr × Nat)) [(2, _), (3, _), (6, _), (8, _), (13, _), (82, _), (83, _)] ((Subs.c rfl (Subs.c rfl (Subs.c rfl (Subs.c rfl (Subs.c rfl (Subs.c rfl (Subs.c rfl Subs.n)))))))) (fun ⟨j, a1, c1, a3, c3, vs⟩ => [(84, VI (j : Int))]) (fun ⟨j, a1, c1, a3, c3, vs⟩ w' => KX (wL0.heap.size) w17_2 w' ∧ j ≤ (uN A.ends v d i).length ∧ Blk w' wL0.heap.size 31 [.slice a1 (RZ A.ends d ((uN A.ends v d i).take j)).length c1, .slice none 0 0, .slice a3 (((uN A.ends v d i).take j).map (inpW A)).length c3] ∧ NAcc w17_2.heap.size w'.heap.size w' 61 56 3 vs ⟨a1, c1, none, 0, a3, c3⟩ ⟨RZ A.ends d ((uN A.ends v d i).take j), [], ((uN A.ends v d i).take j).map (inpW A)⟩) (fun g => (uN A.ends v d i).length - g.1) (0, none, 0, none, 0, []) ((Subs.c (lkI rfl (by omega)) Subs.n)) (⟨KX.refl _ _, ⟨Nat.zero_le _, hB13, NAcc.nil⟩⟩) ?_
        rintro ⟨j, a1, c1, a3, c3, vs⟩ wL4 ⟨hRL4, hj', hB13, hN⟩
        have hzL4 := hRL4.size
        replace hA := hA.kx hRL4 (by omega)
        replace hB3 := hB3.kx hRL4 (by omega)
        replace hB6 := hB6.kx hRL4 (by omega)
        replace hO := hO.kx hRL4 (by omega)
        replace hE := hE.kx hRL4 (by omega)
        have hzl9 : (RZ A.ends d ((uN A.ends v d i).take j)).length = j := by rw [RZ_len, List.length_take]; omega
        have hil9 : (((uN A.ends v d i).take j).map (inpW A)).length = j := by rw [List.length_map, List.length_take]; omega
        refine W_seq ?_
        refine W_region ?_
        refine WL_q rfl (ev_lss rfl rfl) ?_
        refine WL_nil ?_
        refine thenE_n ?_
        refine W_seq ?_
        refine W_cond rfl (fun hg85 => ?_) (fun hg85 => ?_)
        · have hp85 := of_decide_eq_true hg85
          refine W_skip ?_
          refine thenE_n ?_
          refine W_seq ?_
          refine W_block ?_
          refine W_seq ?_
          refine W_region ?_
          have hjlt : j < (uN A.ends v d i).length := by omega
          obtain ⟨y, hzj⟩ : ∃ y, (uN A.ends v d i)[j]? = some y := ⟨_, List.getElem?_eq_getElem hjlt⟩
          have hWA := hO.1.wa (fun _ => rfl) rfl
          obtain ⟨hy1, hy2, hy3, hy4⟩ := hUI.node j y hzj
          have hz6 := zlW_six (d := d) h6 hy2
          refine WL_q rfl (ev_indexAddr Try.underlying75 sz74 rfl rfl (hWA.isSome (by omega)) (by omega) (by omega)) ?_
          refine WL_q rfl (ev_loads st74 sz74 rfl (hWA.at5 hzj) rfl) ?_
          refine WL_m rfl (ev_alloc zr74) ?_
          rintro _ w15 ⟨rfl, hN15⟩
          have hz15 := hN15.size
          replace hE := hE.trans hN15.ext
          replace hRL4 := hRL4.trans hN15.ext
          replace hA := hA.ext hN15.ext
          replace hB3 := hB3.ext hN15.ext
          replace hB6 := hB6.ext hN15.ext
          replace hO := hO.ext hN15.ext
          replace hB13 := hB13.ext hN15.ext
          replace hN := hN.ext hN15.ext
          have hB15 : Blk w15 _ _ [_, _, _, _, _] := hN15.blk
          refine WL_s (ev_stores sz74 rfl rfl rfl (by simp [Value.oneCell']) hB15 (by simp)) ?_
          rintro _ w20_3 hS20_3
          have hz20_3 := hS20_3.size
          replace hE := hE.sto hS20_3 (by omega)
          replace hRL4 := hRL4.sto hS20_3 (by omega)
          replace hA := hA.sto hS20_3 (by omega)
          replace hB3 := hB3.sto hS20_3 (by omega)
          replace hB6 := hB6.sto hS20_3 (by omega)
          replace hO := hO.sto hS20_3 (by omega)
          replace hB13 := hB13.sto hS20_3 (by omega)
          replace hN := hN.sto hS20_3 (by omega)
          replace hB15 : Blk w20_3 _ _ [_, _, _, _, _] := hS20_3.blk
          refine WL_nil ?_
          refine thenE_n ?_
          refine W_seq ?_
          refine W_region ?_
          refine WL_q rfl (ev_assign rfl) ?_
          refine WL_nil ?_
          refine thenE_n ?_
          refine W_join (G := Option Addr × Nat) [(2, _), (3, _), (6, _), (8, _), (13, _), (15, _), (82, _), (83, _), (84, _)] ((Subs.c rfl (Subs.c rfl (Subs.c rfl (Subs.c rfl (Subs.c rfl (Subs.c rfl (Subs.c rfl (Subs.c rfl (Subs.c rfl Subs.n)))))))))) (fun ⟨az, cz⟩ => [(16, .slice az (zlW A.ends d y) cz)]) (fun ⟨az, cz⟩ w' => Ext w20_3 w' ∧ Own w20_3.heap.size w' 61 2 az (zlW A.ends d y) cz (pairCells (zrW A.ends d y))) ?_ ?_
          · have hRJ91 : Ext w20_3 w20_3 := Ext.refl _
            refine W_seq ?_
            refine W_region ?_
            refine WL_q rfl (ev_fieldAddr fo74_2 rfl) ?_
            refine WL_q rfl (ev_load one3 rfl (hB15.cell rfl)) ?_
            refine WL_q rfl (ev_move rfl) ?_
            refine WL_q rfl (ev_lss rfl rfl) ?_
            refine WL_nil ?_
            refine thenE_n ?_
            refine W_cond rfl (fun hg91 => ?_) (fun hg91 => ?_)
            · have hp91 := of_decide_eq_true hg91
              refine W_region ?_
              refine WL_q rfl (ev_fieldAddr fo31_0 rfl) ?_
              refine WL_q rfl (ev_load one29 rfl (hB3.cell rfl)) ?_
              refine WL_q rfl (ev_fieldAddr fo74_0 rfl) ?_
              refine WL_q rfl (ev_load one3 rfl (hB15.cell rfl)) ?_
              have hl96 : y.x.toNat < A.ends.length := by omega
              have ht96 := totL_le hl96
              obtain ⟨a96, c96, hc96, hr96⟩ := hA.ends.row hl96
              refine WL_q rfl (ev_indexAddr Try.underlying29 sz56 rfl rfl (hA.ends.isSome (by omega)) (by omega) (by omega)) ?_
              refine WL_q rfl (ev_load one56 rfl (hc96)) ?_
              refine WL_q rfl (ev_len Try.underlying56 rfl) ?_
              have h6y := h6 _ (List.getElem_mem hy2)
              refine WL_m rfl (ev_make2N Try.underlying56 el61 rfl rfl (by omega) (by omega)) ?_
              rintro _ w99 ⟨rfl, hN99⟩
              have hz99 := hN99.size
              replace hE := hE.trans hN99.ext
              replace hRL4 := hRL4.trans hN99.ext
              replace hRJ91 := hRJ91.trans hN99.ext
              replace hA := hA.ext hN99.ext
              replace hB3 := hB3.ext hN99.ext
              replace hB6 := hB6.ext hN99.ext
              replace hO := hO.ext hN99.ext
              replace hB13 := hB13.ext hN99.ext
              replace hN := hN.ext hN99.ext
              replace hB15 := hB15.ext hN99.ext
              replace hr96 := hr96.ext hN99.ext
              have hB99 := hN99.blk
              have hOn := Own.of_new (n := A.ends[y.x.toNat].length) (sz := 2) hN99 (by simp) (by unfold maxLen; omega)
              refine WL_q rfl (ev_assign rfl) ?_
              refine WL_nil ?_
              refine thenE_n ?_
              have hzq := zl_in (A := A) hp91 hy2
              exact ⟨(some ⟨w20_3.heap.size, 0, none⟩, A.ends[y.x.toNat].length), (Subs.c rfl (Subs.c rfl (Subs.c rfl (Subs.c rfl (Subs.c rfl (Subs.c rfl (Subs.c rfl (Subs.c rfl (Subs.c rfl Subs.n))))))))), (Subs.c (lkS rfl hzq.symm) Subs.n), ⟨hRJ91, (by unfold zrW; rw [hzq, ← pc_zeros9]; exact hOn)⟩⟩
            · have hp91 := of_decide_eq_false hg91
              refine W_seq ?_
              refine W_region ?_
              refine WL_q rfl (ev_move rfl) ?_
              refine WL_q rfl (ev_gtr rfl rfl) ?_
              refine WL_nil ?_
              refine thenE_n ?_
              refine W_cond rfl (fun hg101 => ?_) (fun hg101 => ?_)
              · have hp101 := of_decide_eq_true hg101
                refine W_region ?_
                refine WL_m rfl (ev_make2 Try.underlying56 el61 rfl rfl (by omega) (by omega) (by omega)) ?_
                rintro _ w102 ⟨rfl, hN102⟩
                have hz102 := hN102.size
                replace hE := hE.trans hN102.ext
                replace hRL4 := hRL4.trans hN102.ext
                replace hRJ91 := hRJ91.trans hN102.ext
                replace hA := hA.ext hN102.ext
                replace hB3 := hB3.ext hN102.ext
                replace hB6 := hB6.ext hN102.ext
                replace hO := hO.ext hN102.ext
                replace hB13 := hB13.ext hN102.ext
                replace hN := hN.ext hN102.ext
                replace hB15 := hB15.ext hN102.ext
                have hB102 := hN102.blk
                have hOn := Own.of_new (n := 1) (sz := 2) hN102 rfl (by unfold maxLen; omega)
                refine WL_q rfl (ev_assign rfl) ?_
                refine WL_nil ?_
                refine thenE_n ?_
                have hzq := zl_one (A := A) hp91 (by omega)
                exact ⟨(some ⟨w20_3.heap.size, 0, none⟩, 1), (Subs.c rfl (Subs.c rfl (Subs.c rfl (Subs.c rfl (Subs.c rfl (Subs.c rfl (Subs.c rfl (Subs.c rfl (Subs.c rfl Subs.n))))))))), (Subs.c (lkS rfl hzq.symm) Subs.n), ⟨hRJ91, (by unfold zrW; rw [hzq, ← pc_zeros9]; exact hOn)⟩⟩
              · have hp101 := of_decide_eq_false hg101
                refine W_skip ?_
                refine thenE_n ?_
                have hzq := zl_nil (A := A) hp91 (by omega)
                exact ⟨(none, 0), (Subs.c rfl (Subs.c rfl (Subs.c rfl (Subs.c rfl (Subs.c rfl (Subs.c rfl (Subs.c rfl (Subs.c rfl (Subs.c rfl Subs.n))))))))), (Subs.c (lkS rfl hzq.symm) Subs.n), ⟨hRJ91, (by unfold zrW; rw [hzq]; exact Own.nil _ _ _ _)⟩⟩
          · rintro ⟨az, cz⟩ wJ91 ⟨hEJ91, hZ⟩
            have hzJ91 := hEJ91.size
            replace hE := hE.trans hEJ91
            replace hRL4 := hRL4.trans hEJ91
            replace hA := hA.ext hEJ91
            replace hB3 := hB3.ext hEJ91
            replace hB6 := hB6.ext hEJ91
            replace hO := hO.ext hEJ91
            replace hB13 := hB13.ext hEJ91
            replace hN := hN.ext hEJ91
            replace hB15 := hB15.ext hEJ91
            refine W_seq ?_
            refine W_region ?_
            refine WL_q rfl (ev_fieldAddr fo31_0 rfl) ?_
            refine WL_q rfl (ev_load one29 rfl (hB13.cell rfl)) ?_
            refine WL_q rfl (ev_move rfl) ?_
            refine WL_m rfl (ev_lit1 Try.underlying29 el56 (by decide) (by decide) rfl rfl) ?_
            rintro _ w106 ⟨rfl, hN106⟩
            have hz106 := hN106.size
            replace hE := hE.trans hN106.ext
            replace hRL4 := hRL4.trans hN106.ext
            replace hA := hA.ext hN106.ext
            replace hB3 := hB3.ext hN106.ext
            replace hB6 := hB6.ext hN106.ext
            replace hO := hO.ext hN106.ext
            replace hB13 := hB13.ext hN106.ext
            replace hN := hN.ext hN106.ext
            replace hB15 := hB15.ext hN106.ext
            replace hZ := hZ.ext hN106.ext
            have hB106 := hN106.blk
            have hP107 := hN.rows.out
            have hJ9 := fun q hq => (hN.inp.2 q hq).1
            refine WL_m rfl (ev_append Try.underlying29 el56 rfl (by decide) rfl rfl hP107 (SAt.of_blk (cs := [_]) (ds := []) hB106) rfl (by simp [Value.oneCell']) (by omega) (by unfold maxLen; omega) (by omega)) ?_
            rintro _ w107 ⟨a107, c107, rfl, hO107, hK107, hQ107⟩
            have hz107 := hK107.size
            replace hE := hE.app hK107 (fun q hq => by have h1 := (hP107.block q hq).1; have h2 := hN.rows.otop q hq; omega)
            replace hRL4 := hRL4.app hK107 (fun q hq => by have h1 := (hP107.block q hq).1; have h2 := hN.rows.otop q hq; omega)
            replace hA := hA.app hK107 (hP107) (by omega)
            replace hB3 := hB3.app hK107 (hP107) (by omega)
            replace hB6 := hB6.app hK107 (hP107) (by omega)
            replace hO := hO.app hK107 (hP107) (by omega)
            replace hB13 := hB13.app hK107 (hP107) (by omega)
            have hP107 := hO107
            replace hB15 := hB15.keep hK107 ⟨hB15.lt, fun q hq => by have := hN.rows.otop q hq; omega⟩
            replace hN := (hN.snocRow (ys := zrW A.ends d y) (a2 := az) (c2 := cz) (by rw [zrW_len]; exact hZ.mono (by omega)) (fun q hq => by have := (hZ.block q hq).1; omega) hK107 (by rw [zrW_len]; exact hO107) rfl hQ107 (by omega)).to (show _ = (⟨RZ A.ends d ((uN A.ends v d i).take (j + 1)), [], ((uN A.ends v d i).take j).map (inpW A)⟩ : Net) by rw [RZ_take hzj])
            refine WL_q rfl (ev_fieldAddr fo31_0 rfl) ?_
            refine WL_s (ev_store sz29 rfl rfl rfl hB13 (by simp)) ?_
            rintro _ w26_6 hS26_6
            have hz26_6 := hS26_6.size
            replace hE := hE.sto hS26_6 (by omega)
            replace hRL4 := hRL4.sto hS26_6 (by omega)
            replace hA := hA.sto hS26_6 (by omega)
            replace hB3 := hB3.sto hS26_6 (by omega)
            replace hB6 := hB6.sto hS26_6 (by omega)
            replace hO := hO.sto hS26_6 (by omega)
            replace hN := hN.sto hS26_6 (by omega)
            replace hB15 := hB15.sto hS26_6 (by omega)
            replace hB13 : Blk w26_6 _ _ [_, _, _] := hS26_6.blk
            refine WL_nil ?_
            refine thenE_n ?_
            refine W_drawZ 11 w17_2.heap.size w26_6.heap.size wL4.heap.size (wL4.heap.size + 1) (fun w' => True) [(0, true), (1, true), (2, true), (3, true), (4, true), (5, true), (6, true), (7, true), (8, false), (9, false), (10, true), (11, false)] mixed (by kernel_rfl) rfl (by kernel_rfl) (fun _ _ => trivial) ?_
            intro wd27 hEd27 hzd27
            replace hE := hE.trans hEd27
            replace hRL4 := hRL4.trans hEd27
            replace hA := hA.ext hEd27
            replace hB3 := hB3.ext hEd27
            replace hB6 := hB6.ext hEd27
            replace hO := hO.ext hEd27
            replace hB13 := hB13.ext hEd27
            replace hN := hN.ext hEd27
            replace hB15 := hB15.ext hEd27
            have hDd27 := (Rg.refl : Rg w17_2.heap.size w26_6.heap.size wL4.heap.size (wL4.heap.size + 1) wd27 wd27)
            refine PZ_q rfl rfl rfl (fun wq hq => ev_fieldAddr fo31_2 rfl) ?_
            refine PZ_q rfl rfl rfl (fun wq hq => ev_load one23 rfl ((hB13.rg hq.1 (by omega)).cell rfl)) ?_
            refine PZ_q rfl rfl rfl (fun wq hq => ev_fieldAddr fo31_2 rfl) ?_
            refine PZ_q rfl rfl rfl (fun wq hq => ev_load one23 rfl ((hB3.rg hq.1 (by omega)).cell rfl)) ?_
            refine PZ_q rfl rfl rfl (fun wq hq => ev_fieldAddr fo74_0 rfl) ?_
            refine PZ_q rfl rfl rfl (fun wq hq => ev_load one3 rfl ((hB15.rg hq.1 (by omega)).cell rfl)) ?_
            refine PZ_q rfl rfl rfl (fun wq hq => ev_indexAddr Try.underlying23 sz3 rfl rfl (hA.inputs.isSome (by omega)) (by omega) (by omega)) ?_
            refine PZ_q rfl rfl rfl (fun wq hq => ev_load one3 rfl ((hA.inputs.rg hq.1 (by omega)).cellJ (i := y.x.toNat) (j := y.x.toNat) (by omega) (by omega))) ?_
            refine PZ_m rfl rfl rfl (ev_lit1 Try.underlying23 el3 (by decide) (by decide) rfl rfl) ?_
            rintro _ w117 ⟨rfl, hN117⟩
            have hz117 := hN117.size
            replace hE := hE.trans hN117.ext
            replace hRL4 := hRL4.trans hN117.ext
            replace hDd27 := hDd27.trans hN117.ext
            replace hN := hN.ext hN117.ext
            have hB117 := hN117.blk
            refine ⟨⟨hDd27, trivial⟩, ?_⟩
            have hA_9 := hA.rg hDd27 (by omega)
            have hB3_9 := hB3.rg hDd27 (by omega)
            have hB6_9 := hB6.rg hDd27 (by omega)
            have hO_9 := hO.rg hDd27 (by omega)
            have hB13_9 := hB13.rg hDd27 (by omega)
            have hB15_9 := hB15.rg hDd27 (by omega)
            have hP118 := hN.inp.1
            have hT1 : ∀ q, a3 = some q → q.block < wL4.heap.size := hJ9
            refine PZ_m rfl rfl rfl (ev_append Try.underlying23 el3 rfl (by decide) rfl rfl hP118 (SAt.of_blk (cs := [_]) (ds := []) hB117) rfl (by simp [Value.oneCell']) (by omega) (by unfold maxLen; omega) (by omega)) ?_
            rintro _ w118 ⟨a118, c118, rfl, hO118, hK118, hQ118⟩
            have hz118 := hK118.size
            replace hE := hE.app hK118 (fun q hq => by have h1 := (hP118.block q hq).1; have h2 := hT1 q hq; omega)
            replace hRL4 := hRL4.app hK118 (fun q hq => by have h1 := (hP118.block q hq).1; have h2 := hT1 q hq; omega)
            replace hDd27 := hDd27.app hK118 (fun q hq => by have h1 := (hP118.block q hq).1; have h2 := hT1 q hq; omega)
            have hP118 := hO118
            replace hN := (hN.snocInp hK118 hO118 rfl hQ118 (by omega)).to (show _ = (⟨RZ A.ends d ((uN A.ends v d i).take (j + 1)), [], ((uN A.ends v d i).take (j + 1)).map (inpW A)⟩ : Net) by rw [inp_take hzj, inpW_at (by omega)])
            refine ⟨⟨hDd27, trivial⟩, ?_⟩
            refine PZ_q rfl rfl rfl (fun wq hq => ev_fieldAddr fo31_2 rfl) ?_
            replace hA := hA.rg hDd27 (by omega)
            replace hB3 := hB3.rg hDd27 (by omega)
            replace hB6 := hB6.rg hDd27 (by omega)
            replace hO := hO.rg hDd27 (by omega)
            replace hB13 := hB13.rg hDd27 (by omega)
            replace hB15 := hB15.rg hDd27 (by omega)
            refine PZ_z rfl (ev_store sz23 rfl rfl rfl hB13 (by simp)) ?_
            rintro _ w27_11 hS27_11
            have hz27_11 := hS27_11.size
            replace hE := hE.sto hS27_11 (by omega)
            replace hRL4 := hRL4.sto hS27_11 (by omega)
            replace hA := hA.sto hS27_11 (by omega)
            replace hB3 := hB3.sto hS27_11 (by omega)
            replace hB6 := hB6.sto hS27_11 (by omega)
            replace hO := hO.sto hS27_11 (by omega)
            replace hB15 := hB15.sto hS27_11 (by omega)
            replace hN := hN.sto hS27_11 (by omega)
            replace hB13 : Blk w27_11 _ _ [_, _, _] := hS27_11.blk
            refine PW_nil ?_
            refine blockE_n ?_
            refine thenE_n ?_
            refine W_region ?_
            refine WL_q rfl (ev_add rfl rfl (by omega)) ?_
            refine WL_q rfl (ev_move rfl) ?_
            refine WL_nil ?_
            refine thenE_n ?_
            have hzl8 : (RZ A.ends d ((uN A.ends v d i).take (j + 1))).length = (RZ A.ends d ((uN A.ends v d i).take j)).length + 1 := by rw [RZ_take hzj, List.length_append]; rfl
            have hil8 : (((uN A.ends v d i).take (j + 1)).map (inpW A)).length = (((uN A.ends v d i).take j).map (inpW A)).length + 1 := by rw [inp_take hzj, List.length_append]; rfl
            exact ⟨(j + 1, a107, c107, a118, c118, vs ++ [(az, cz)]), (Subs.c rfl (Subs.c rfl (Subs.c rfl (Subs.c rfl (Subs.c rfl (Subs.c rfl (Subs.c rfl Subs.n))))))), (Subs.c (lkI rfl (by omega)) Subs.n), ⟨hRL4, ⟨by omega, by rw [hzl8, hil8]; exact hB13, hN.up (by omega)⟩⟩, by first | omega | (dsimp only; omega)⟩
        · have hp85 := of_decide_eq_false hg85
          refine W_exit ?_
          refine thenE_x ?_
          refine thenE_x ?_
          refine blockE_hit ?_
          refine thenE_n ?_
          refine W_seq ?_
          refine W_seq ?_
          refine W_region ?_
          have hj9 : j = (uN A.ends v d i).length := by omega
          replace hN := hN.to (show _ = (⟨RS A.ends d (uN A.ends v d i) 0, [], (uN A.ends v d i).map (inpW A)⟩ : Net) by rw [hj9, List.take_length, RS_0])
          rw [hj9, List.take_length, RZ_len] at hB13
          refine WL_q rfl (ev_move rfl) ?_
          refine WL_q rfl (ev_len Try.underlying75 rfl) ?_
          refine WL_q rfl (ev_move rfl) ?_
          refine WL_nil ?_
          refine thenE_n ?_
          refine W_block ?_
          refine W_loopC (G := Nat) [(2, _), (6, _), (13, _), (121, _), (122, _)] ((Subs.c rfl (Subs.c rfl (Subs.c rfl (Subs.c rfl (Subs.c rfl Subs.n)))))) (fun c => [(123, VI (c : Int))]) (fun c w' => Lo (w17_2.heap.size) wL4 w' ∧ c ≤ (uN A.ends v d i).length ∧ NAcc w17_2.heap.size w'.heap.size w' 61 56 3 vs ⟨a1, c1, none, 0, a3, c3⟩ ⟨RS A.ends d (uN A.ends v d i) c, [], (uN A.ends v d i).map (inpW A)⟩) (fun g => (uN A.ends v d i).length - g) 0 ((Subs.c (lkI rfl (by omega)) Subs.n)) (⟨Lo.refl (by omega), ⟨Nat.zero_le _, hN⟩⟩) ?_
          rintro c wL6 ⟨hRL6, hc', hN⟩
          have hzL6 := hRL6.size
          replace hA := hA.lo hRL6 (by omega)
          replace hB3 := hB3.lo hRL6 (by omega)
          replace hB6 := hB6.lo hRL6 (by omega)
          replace hO := hO.lo hRL6 (by omega)
          replace hB13 := hB13.lo hRL6 (by omega)
          replace hE := hE.lo hRL6 (by omega)
          refine W_seq ?_
          refine W_region ?_
          refine WL_q rfl (ev_lss rfl rfl) ?_
          refine WL_nil ?_
          refine thenE_n ?_
          refine W_seq ?_
          refine W_cond rfl (fun hg124 => ?_) (fun hg124 => ?_)
          · have hp124 := of_decide_eq_true hg124
            refine W_skip ?_
            refine thenE_n ?_
            refine W_seq ?_
            refine W_block ?_
            refine W_seq ?_
            refine W_region ?_
            refine WL_q rfl (ev_move rfl) ?_
            have hclt : c < (uN A.ends v d i).length := by omega
            obtain ⟨y, hzc⟩ : ∃ y, (uN A.ends v d i)[c]? = some y := ⟨_, List.getElem?_eq_getElem hclt⟩
            have hWA := hO.1.wa (fun _ => rfl) rfl
            refine WL_q rfl (ev_indexAddr Try.underlying75 sz74 rfl rfl (hWA.isSome (by omega)) (by omega) (by omega)) ?_
            refine WL_q rfl (ev_loads st74 sz74 rfl (hWA.at5 hzc) rfl) ?_
            refine WL_m rfl (ev_alloc zr74) ?_
            rintro _ w18 ⟨rfl, hN18⟩
            have hz18 := hN18.size
            replace hE := hE.trans hN18.ext
            replace hRL6 := hRL6.trans hN18.ext
            replace hA := hA.ext hN18.ext
            replace hB3 := hB3.ext hN18.ext
            replace hB6 := hB6.ext hN18.ext
            replace hO := hO.ext hN18.ext
            replace hB13 := hB13.ext hN18.ext
            replace hN := hN.ext hN18.ext
            have hB18 : Blk w18 _ _ [_, _, _, _, _] := hN18.blk
            refine WL_q rfl (ev_assign rfl) ?_
            refine WL_s (ev_stores sz74 rfl rfl rfl (by simp [Value.oneCell']) hB18 (by simp)) ?_
            rintro _ w31_5 hS31_5
            have hz31_5 := hS31_5.size
            replace hE := hE.sto hS31_5 (by omega)
            replace hRL6 := hRL6.sto hS31_5 (by omega)
            replace hA := hA.sto hS31_5 (by omega)
            replace hB3 := hB3.sto hS31_5 (by omega)
            replace hB6 := hB6.sto hS31_5 (by omega)
            replace hO := hO.sto hS31_5 (by omega)
            replace hB13 := hB13.sto hS31_5 (by omega)
            replace hN := hN.sto hS31_5 (by omega)
            replace hB18 : Blk w31_5 _ _ [_, _, _, _, _] := hS31_5.blk
            refine WL_nil ?_
            refine thenE_n ?_
            refine W_seq ?_
            refine W_seq ?_
            refine W_region ?_
            refine WL_q rfl (ev_fieldAddr fo74_3 rfl) ?_
            refine WL_q rfl (ev_load one3 rfl (hB18.cell rfl)) ?_
            refine WL_q rfl (ev_lss rfl rfl) ?_
            refine WL_nil ?_
            refine thenE_n ?_
            refine W_cond rfl (fun hg130 => ?_) (fun hg130 => ?_)
            · have hp130 := of_decide_eq_true hg130
              refine W_exit ?_
              refine thenE_x ?_
              refine blockE_hit ?_
              refine thenE_n ?_
              refine W_region ?_
              refine WL_q rfl (ev_add rfl rfl (by omega)) ?_
              refine WL_q rfl (ev_move rfl) ?_
              refine WL_nil ?_
              refine thenE_n ?_
              have hc0 : c = 0 := by (by_cases hc0 : c = 0; exact hc0; exact absurd hp130 (hUI.up hkA hzc (by omega)).1)
              exact ⟨c + 1, (Subs.c rfl (Subs.c rfl (Subs.c rfl (Subs.c rfl (Subs.c rfl Subs.n))))), (Subs.c (lkI rfl (by omega)) Subs.n), ⟨hRL6, ⟨by omega, (hN.to (show _ = (⟨RS A.ends d (uN A.ends v d i) (c + 1), [], (uN A.ends v d i).map (inpW A)⟩ : Net) by subst hc0; rw [RS_0, RS_zero hUI])).up (by omega)⟩⟩, by first | omega | (dsimp only; omega)⟩
            · have hp130 := of_decide_eq_false hg130
              refine W_skip ?_
              refine thenE_n ?_
              refine W_seq ?_
              refine W_region ?_
              have hc0 : 0 < c := by (by_cases h9 : c = 0; (subst h9; have e8 := hUI.u0 hzc; subst e8; exact absurd (show (-1 : Int) < 0 by decide) hp130); omega)
              obtain ⟨hq1, hq2, hq3, hq4, hq5, y2, hq6, hq7, hq8, hq9⟩ := hUI.up hkA hzc hc0
              refine WL_q rfl (ev_fieldAddr fo74_1 rfl) ?_
              refine WL_q rfl (ev_load one3 rfl (hB18.cell rfl)) ?_
              refine WL_q rfl (ev_assign rfl) ?_
              refine WL_nil ?_
              refine thenE_n ?_
              refine W_join (G := Unit) [(2, _), (6, _), (13, _), (17, _), (18, _), (121, _), (122, _), (123, _)] ((Subs.c rfl (Subs.c rfl (Subs.c rfl (Subs.c rfl (Subs.c rfl (Subs.c rfl (Subs.c rfl (Subs.c rfl Subs.n))))))))) (fun _ => [(19, VI (qFW d y))]) (fun _ w' => Ext w31_5 w') ?_ ?_
              · have hRJ136 : Ext w31_5 w31_5 := Ext.refl _
                refine W_seq ?_
                refine W_region ?_
                refine WL_q rfl (ev_fieldAddr fo74_2 rfl) ?_
                refine WL_q rfl (ev_load one3 rfl (hB18.cell rfl)) ?_
                refine WL_q rfl (ev_move rfl) ?_
                refine WL_q rfl (ev_eql rfl rfl) ?_
                refine WL_nil ?_
                refine thenE_n ?_
                refine W_cond rfl (fun hg136 => ?_) (fun hg136 => ?_)
                · have hp136 := of_decide_eq_true hg136
                  refine W_region ?_
                  refine WL_q rfl (ev_assign rfl) ?_
                  refine WL_nil ?_
                  refine thenE_n ?_
                  exact ⟨(), (Subs.c rfl (Subs.c rfl (Subs.c rfl (Subs.c rfl (Subs.c rfl (Subs.c rfl (Subs.c rfl (Subs.c rfl Subs.n)))))))), (Subs.c (lkI rfl (qFW_t hp136)) Subs.n), hRJ136⟩
                · have hp136 := of_decide_eq_false hg136
                  refine W_skip ?_
                  refine thenE_n ?_
                  exact ⟨(), (Subs.c rfl (Subs.c rfl (Subs.c rfl (Subs.c rfl (Subs.c rfl (Subs.c rfl (Subs.c rfl (Subs.c rfl Subs.n)))))))), (Subs.c (lkI rfl (qFW_f hp136)) Subs.n), hRJ136⟩
              · rintro _ wJ136 hEJ136
                have hzJ136 := hEJ136.size
                replace hE := hE.trans hEJ136
                replace hRL6 := hRL6.trans hEJ136
                replace hA := hA.ext hEJ136
                replace hB3 := hB3.ext hEJ136
                replace hB6 := hB6.ext hEJ136
                replace hO := hO.ext hEJ136
                replace hB13 := hB13.ext hEJ136
                replace hN := hN.ext hEJ136
                replace hB18 := hB18.ext hEJ136
                have hrl6 : (RS A.ends d (uN A.ends v d i) c).length = (uN A.ends v d i).length := RS_len
                have hvl6 : vs.length = (RS A.ends d (uN A.ends v d i) c).length := hN.rows.len
                have hiv1 : y.u.toNat < vs.length := by omega
                have hir1 : y.u.toNat < (RS A.ends d (uN A.ends v d i) c).length := by omega
                have hic1 : c < (RS A.ends d (uN A.ends v d i) c).length := by omega
                have hrr1 := RS_row hkA hUI (n := c) (by omega) hq6 hir1
                have hrr2 := RS_row hkA hUI (n := c) (by omega) hzc hic1
                have hrw1 : y.b.toNat < ((RS A.ends d (uN A.ends v d i) c)[y.u.toNat]).length := by rw [hrr1]; exact hq9
                obtain ⟨gO, restO, hga, hgl, hgr, hBo, hcap, hOr, hsep⟩ := hN.rowOpen hiv1 hir1
                have hga2 : a1 = some ⟨gO, 0, none⟩ := hga
                subst hga2
                have e81 := rowsp_cell (rest := restO) hN.rows hiv1 hir1
                obtain ⟨g1, rest1, hg1a, hg1l, hg1r, hBr1, hg11, hg12, hg13⟩ := hN.rowBlk hiv1 hir1 (y := y.b.toNat) hrw1
                have hs1 := (hsep _ hg1a).2.2
                dsimp only at e81 hBr1 hg11 hg13 hs1
                rw [hg1a] at e81
                refine W_seq ?_
                refine W_drawK (g1) (fun w' => True) [(0, true), (1, true), (2, true), (3, true), (4, true), (5, true), (6, true), (7, true), (8, true), (9, true), (10, true), (11, true), (12, false)] mixed (by kernel_rfl) rfl (by kernel_rfl) (fun _ _ => trivial) ?_
                intro wd36 hEd36 hzd36
                replace hE := hE.trans hEd36
                replace hRL6 := hRL6.trans hEd36
                replace hA := hA.ext hEd36
                replace hB3 := hB3.ext hEd36
                replace hB6 := hB6.ext hEd36
                replace hO := hO.ext hEd36
                replace hB13 := hB13.ext hEd36
                replace hN := hN.ext hEd36
                replace hB18 := hB18.ext hEd36
                replace hBo := hBo.ext hEd36
                replace hBr1 := hBr1.ext hEd36
                have hN0 := hN
                have hBr1_0 := hBr1
                have hDd36 := KX.refl (g1) wd36
                refine PW_q rfl rfl (fun wq hq => ev_fieldAddr fo31_0 rfl) ?_
                refine PW_q rfl rfl (fun wq hq => ev_load one29 rfl ((hB13.kx hq.1 (by omega)).cell rfl)) ?_
                refine PW_q rfl rfl (fun wq hq => ev_fieldAddr fo74_3 rfl) ?_
                refine PW_q rfl rfl (fun wq hq => ev_load one3 rfl ((hB18.kx hq.1 (by omega)).cell rfl)) ?_
                refine PW_q rfl rfl (fun wq hq => ev_indexAddr Try.underlying29 sz56 rfl rfl rfl (by omega) (by omega)) ?_
                refine PW_q rfl rfl (fun wq hq => ev_load one56 rfl (hq.1.cell' (hBo.cellAt e81 (by simp)) (by omega))) ?_
                refine PW_q rfl rfl (fun wq hq => ev_fieldAddr fo74_4 rfl) ?_
                refine PW_q rfl rfl (fun wq hq => ev_load one3 rfl ((hB18.kx hq.1 (by omega)).cell rfl)) ?_
                refine PW_q rfl rfl (fun wq hq => ev_move rfl) ?_
                refine PW_q rfl rfl (fun wq hq => ev_move rfl) ?_
                refine PW_q rfl rfl (fun wq hq => ev_build2 sn61_2 rfl rfl rfl rfl) ?_
                refine PW_q rfl rfl (fun wq hq => ev_indexAddr Try.underlying56 sz61 rfl rfl rfl (by omega) (by omega)) ?_
                refine PW_s rfl (ev_stores sz61 rfl rfl rfl (by simp [Value.oneCell']) hBr1 (by rw [List.length_append, pairCells_length, hrr1]; show _ + 2 ≤ _; omega)) ?_
                rintro _ w36_12 hS36_12
                have hz36_12 := hS36_12.size
                replace hE := hE.sto hS36_12 (by omega)
                replace hRL6 := hRL6.sto hS36_12 (by omega)
                replace hDd36 := hDd36.sto hS36_12 (by omega)
                replace hBr1 := hS36_12.blk
                have hN1 := hN0.setEnd (e := ((c : Int), qFW d y)) hiv1 hir1 hrw1 hg1a ⟨hg11, hg12, hg13⟩ hg1l hS36_12 (by simpa using hBr1)
                have hir2 : c < ((RS A.ends d (uN A.ends v d i) c).set y.u.toNat ((RS A.ends d (uN A.ends v d i) c)[y.u.toNat].set y.b.toNat ((c : Int), qFW d y))).length := by rw [List.length_set]; exact hic1
                have hiv2 : c < vs.length := by omega
                have hrr3 : ((RS A.ends d (uN A.ends v d i) c).set y.u.toNat ((RS A.ends d (uN A.ends v d i) c)[y.u.toNat].set y.b.toNat ((c : Int), qFW d y)))[c].length = zlW A.ends d y := by rw [List.getElem_set_ne (by omega)]; exact hrr2
                have hrw2 : (qFW d y).toNat < ((RS A.ends d (uN A.ends v d i) c).set y.u.toNat ((RS A.ends d (uN A.ends v d i) c)[y.u.toNat].set y.b.toNat ((c : Int), qFW d y)))[c].length := by rw [hrr3]; exact hq5
                obtain ⟨gO2, restO2, hgaB, hglB, hgrB, hBo2, hcapB, hOrB, hsepB⟩ := hN1.rowOpen hiv2 hir2
                have hga3 : gO = gO2 := by cases hgaB; rfl
                subst hga3
                have e82 := rowsp_cell (rest := restO2) hN1.rows hiv2 hir2
                obtain ⟨g2, rest2, hg2a, hg2l, hg2r, hBr2, hg21, hg22, hg23⟩ := hN1.rowBlk hiv2 hir2 (y := (qFW d y).toNat) hrw2
                have hs2 := (hsepB _ hg2a).2.2
                dsimp only at e82 hBr2 hBo2 hg21 hg23 hs2
                rw [hg2a] at e82
                have hrlS : ((RS A.ends d (uN A.ends v d i) c).set y.u.toNat ((RS A.ends d (uN A.ends v d i) c)[y.u.toNat].set y.b.toNat ((c : Int), qFW d y))).length = (RS A.ends d (uN A.ends v d i) c).length := List.length_set
                refine ⟨⟨hDd36, trivial⟩, ?_⟩
                replace hA := hA.kx hDd36 (by omega)
                replace hB3 := hB3.kx hDd36 (by omega)
                replace hB6 := hB6.kx hDd36 (by omega)
                replace hO := hO.kx hDd36 (by omega)
                replace hB13 := hB13.kx hDd36 (by omega)
                replace hB18 := hB18.kx hDd36 (by omega)
                replace hBo := hBo.kx hDd36 (by omega)
                refine PW_nil ?_
                refine thenE_n ?_
                refine W_drawK (g2) (fun w' => True) [(0, true), (1, true), (2, true), (3, true), (4, true), (5, true), (6, true), (7, true), (8, true), (9, true), (10, true), (11, true), (12, false)] mixed (by kernel_rfl) rfl (by kernel_rfl) (fun _ _ => trivial) ?_
                intro wd37 hEd37 hzd37
                replace hE := hE.trans hEd37
                replace hRL6 := hRL6.trans hEd37
                replace hA := hA.ext hEd37
                replace hB3 := hB3.ext hEd37
                replace hB6 := hB6.ext hEd37
                replace hO := hO.ext hEd37
                replace hB13 := hB13.ext hEd37
                replace hB18 := hB18.ext hEd37
                replace hBo := hBo.ext hEd37
                replace hN1 := hN1.ext hEd37
                replace hBo2 := hBo2.ext hEd37
                replace hBr2 := hBr2.ext hEd37
                have hN1_0 := hN1
                have hBr2_0 := hBr2
                have hDd37 := KX.refl (g2) wd37
                refine PW_q rfl rfl (fun wq hq => ev_fieldAddr fo31_0 rfl) ?_
                refine PW_q rfl rfl (fun wq hq => ev_load one29 rfl ((hB13.kx hq.1 (by omega)).cell rfl)) ?_
                refine PW_q rfl rfl (fun wq hq => ev_move rfl) ?_
                refine PW_q rfl rfl (fun wq hq => ev_indexAddr Try.underlying29 sz56 rfl rfl rfl (by omega) (by omega)) ?_
                refine PW_q rfl rfl (fun wq hq => ev_load one56 rfl (hq.1.cell' (hBo2.cellAt e82 (by simp)) (by omega))) ?_
                refine PW_q rfl rfl (fun wq hq => ev_move rfl) ?_
                refine PW_q rfl rfl (fun wq hq => ev_fieldAddr fo74_3 rfl) ?_
                refine PW_q rfl rfl (fun wq hq => ev_load one3 rfl ((hB18.kx hq.1 (by omega)).cell rfl)) ?_
                refine PW_q rfl rfl (fun wq hq => ev_fieldAddr fo74_4 rfl) ?_
                refine PW_q rfl rfl (fun wq hq => ev_load one3 rfl ((hB18.kx hq.1 (by omega)).cell rfl)) ?_
                refine PW_q rfl rfl (fun wq hq => ev_build2 sn61_2 rfl rfl rfl rfl) ?_
                refine PW_q rfl rfl (fun wq hq => ev_indexAddr Try.underlying56 sz61 rfl rfl rfl (by omega) (by omega)) ?_
                refine PW_s rfl (ev_stores sz61 rfl rfl rfl (by simp [Value.oneCell']) hBr2 (by rw [List.length_append, pairCells_length, hrr3]; show _ + 2 ≤ _; omega)) ?_
                rintro _ w37_12 hS37_12
                have hz37_12 := hS37_12.size
                replace hE := hE.sto hS37_12 (by omega)
                replace hRL6 := hRL6.sto hS37_12 (by omega)
                replace hDd37 := hDd37.sto hS37_12 (by omega)
                replace hBr2 := hS37_12.blk
                have hN2 := hN1_0.setEnd (e := (y.u, y.b)) hiv2 hir2 hrw2 hg2a ⟨hg21, hg22, hg23⟩ hg2l hS37_12 (by simpa using hBr2)
                refine ⟨⟨hDd37, trivial⟩, ?_⟩
                replace hA := hA.kx hDd37 (by omega)
                replace hB3 := hB3.kx hDd37 (by omega)
                replace hB6 := hB6.kx hDd37 (by omega)
                replace hO := hO.kx hDd37 (by omega)
                replace hB13 := hB13.kx hDd37 (by omega)
                replace hB18 := hB18.kx hDd37 (by omega)
                replace hBo := hBo.kx hDd37 (by omega)
                replace hBo2 := hBo2.kx hDd37 (by omega)
                refine PW_nil ?_
                refine blockE_n ?_
                refine thenE_n ?_
                refine W_region ?_
                refine WL_q rfl (ev_add rfl rfl (by omega)) ?_
                refine WL_q rfl (ev_move rfl) ?_
                refine WL_nil ?_
                refine thenE_n ?_
                exact ⟨c + 1, (Subs.c rfl (Subs.c rfl (Subs.c rfl (Subs.c rfl (Subs.c rfl Subs.n))))), (Subs.c (lkI rfl (by omega)) Subs.n), ⟨hRL6, ⟨by omega, (hN2.to (show _ = (⟨RS A.ends d (uN A.ends v d i) (c + 1), [], (uN A.ends v d i).map (inpW A)⟩ : Net) by rw [RS_succ hkA hUI hc0 hzc rfl rfl rfl])).up (by omega)⟩⟩, by first | omega | (dsimp only; omega)⟩
          · have hp124 := of_decide_eq_false hg124
            refine W_exit ?_
            refine thenE_x ?_
            refine thenE_x ?_
            refine blockE_hit ?_
            refine thenE_n ?_
            refine W_seq ?_
            refine W_region ?_
            have hc9 : c = (uN A.ends v d i).length := by omega
            have hN9 := hN.to (show _ = unfN A v d by rw [hc9, RS_full]; unfold unfN; rw [e9])
            have hl8 : (unfN A v d).ends.length = (uN A.ends v d i).length := by unfold unfN; rw [e9]; exact RI_len
            have hl7 : (unfN A v d).inputs.length = ((uN A.ends v d i).map (inpW A)).length := by unfold unfN; rw [e9]
            refine WL_q rfl (ev_loads st31 sz31 rfl (cellsB hB13) rfl) ?_
            refine WL_s (ev_stores sz31 rfl rfl rfl (by simp [Value.oneCell']) hB6 (by simp)) ?_
            rintro _ w39_1 hS39_1
            have hz39_1 := hS39_1.size
            replace hE := hE.sto hS39_1 (by omega)
            replace hA := hA.sto hS39_1 (by omega)
            replace hB3 := hB3.sto hS39_1 (by omega)
            replace hO := hO.sto hS39_1 (by omega)
            replace hB13 := hB13.sto hS39_1 (by omega)
            replace hN := hN.sto hS39_1 (by omega)
            replace hN9 := hN9.sto hS39_1 (by omega)
            replace hB6 : Blk w39_1 _ _ [_, _, _] := hS39_1.blk
            refine WL_q rfl (ev_assign rfl) ?_
            refine WL_nil ?_
            refine thenE_n ?_
            refine W_ret ?_
            refine retc2 rfl rfl st31 sz31 (cellsB hB6) rfl rfl ?_
            first | (exact ⟨⟨none, 0, none, 0, none, 0⟩, ⟨[], [], []⟩, _, rfl, .no (fun h => hp22 h.1), ⟨Nest.nil, Ints.nil, Ints.nil⟩, by decide, hE⟩) | (exact ⟨⟨none, 0, none, 0, none, 0⟩, ⟨[], [], []⟩, _, rfl, .no (fun h => hp26 h.2.1), ⟨Nest.nil, Ints.nil, Ints.nil⟩, by decide, hE⟩) | (exact ⟨⟨none, 0, none, 0, none, 0⟩, ⟨[], [], []⟩, _, rfl, .no (fun h => absurd h.2.2 (Nat.not_le.2 (uN_big (i := i + 1) (by rw [e9]; omega) (by omega)))), ⟨Nest.nil, Ints.nil, Ints.nil⟩, by decide, hE⟩) | (exact ⟨⟨a1, c1, none, 0, a3, c3⟩, unfN A v d, _, by unfold netV; rw [hl8, hl7]; rfl, .yes hUO rfl, hN9.is.mono (by omega) (by omega), NOk.tot (unfN_ok hUO), hE⟩)

end Go.Proofs.Ytladejfcplpnaaa
