/- Contract of impl.FibreProduct. -/
import Derived.Test.YtladejfcplpnaaaFib
import Derived.Test.YtladejfcplpnaaaDrawY
import Derived.Test.YtladejfcplpnaaaDrawV
import Derived.Test.YtladejfcplpnaaaEdges
namespace Go.Proofs.Ytladejfcplpnaaa
open Go Go.RowKit

theorem laidOutP : laidOutB Try.prog = true := by kernel_rfl
theorem qlaw : Maps.Keyed Try.prog 70 := Maps.Keyed.of_law (deep_law_gate laidOutP (of_decide_eq_true (by kernel_rfl)) (of_decide_eq_true (by kernel_rfl)) (by kernel_rfl) (by kernel_rfl))
theorem qgood {p : Int × Int} (h1 : I64 p.1) (h2 : I64 p.2) : GoodK Try.prog 70 (VPair p) := goodK_pair (by kernel_rfl) h1 h2
theorem eqv_t {f g : List Int} {i k : Nat} (hi : i < f.length) (hk : k < g.length) (e : f[i] = g[k]) : eqv f g i k = true := by unfold eqv; rw [getD_eq hi, getD_eq hk]; exact decide_eq_true e
theorem eqv_f {f g : List Int} {i k : Nat} (hi : i < f.length) (hk : k < g.length) (e : ¬ f[i] = g[k]) : eqv f g i k = false := by unfold eqv; rw [getD_eq hi, getD_eq hk]; exact decide_eq_false e
theorem kvP_lookE {f g : List Int} {nB i : Nat} {x y : Int} (h1 : 0 ≤ x) (h2 : 0 ≤ y) (hv : x.toNat < i) (hw : y.toNat < nB) (h : eqv f g x.toNat y.toNat = true) : (alook (kvP (ftN f g nB i)) (x, y)).getD 0 = (num f g nB x.toNat y.toNat : Int) := by
  have := kvP_look hv hw h
  rwa [Int.toNat_of_nonneg h1, Int.toNat_of_nonneg h2] at this
/-- The first t rows of the product, and their inputs. -/
def fbE (A B : Net) (f g : List Int) (t : Nat) : Ends := ((PLf A B f g).take t).map (prow A B f g)
def fbI (A B : Net) (f g : List Int) (t : Nat) : List Int := ((PLf A B f g).take t).map fun p => A.inputs.getD p.1.toNat 0
section
variable {A B D : Net} {f g : List Int}
theorem fbE_len {t : Nat} (h : t ≤ (PLf A B f g).length) : (fbE A B f g t).length = t := by simp [fbE]; omega
theorem fbI_len {t : Nat} (h : t ≤ (PLf A B f g).length) : (fbI A B f g t).length = t := by simp [fbI]; omega
theorem fb_take {α : Type} {l : List α} {j : Nat} (h : j < l.length) : l.take j ++ [l[j]] = l.take (j + 1) := by rw [List.take_succ_eq_append_getElem h]
theorem fbE_snoc {t : Nat} (h : t < (PLf A B f g).length) {xs : List (Int × Int)} (e : xs = prow A B f g (PLf A B f g)[t]) : fbE A B f g t ++ [xs] = fbE A B f g (t + 1) := by
  subst e; unfold fbE; rw [← fb_take h, List.map_append]; rfl
theorem fbI_snoc {t : Nat} (h : t < (PLf A B f g).length) {x : Int} (e : x = A.inputs.getD (PLf A B f g)[t].1.toNat 0) : fbI A B f g t ++ [x] = fbI A B f g (t + 1) := by
  subst e; unfold fbI; rw [← fb_take h, List.map_append]; rfl
theorem fb_full : (⟨fbE A B f g (PLf A B f g).length, [], fbI A B f g (PLf A B f g).length⟩ : Net) = fibP A B f g := by unfold fbE fbI fibP; rw [List.take_length]
theorem prow_snoc (h : HF A B D f g) {v w k : Nat} (hv : v < A.ends.length) (hw : w < B.ends.length) (hi : k < A.ends[v].length) (hj : k < B.ends[w].length) {e : Int × Int} (he : e = ((num f g B.ends.length A.ends[v][k].1.toNat B.ends[w][k].1.toNat : Int), A.ends[v][k].2)) : (prow A B f g ((v : Int), (w : Int))).take k ++ [e] = (prow A B f g ((v : Int), (w : Int))).take (k + 1) := by
  have hl : k < (prow A B f g ((v : Int), (w : Int))).length := by rw [prow_len rfl hv]; exact hi
  subst he
  rw [← prow_at hv hw hi hj hl, fb_take hl]
theorem fib_tot (h : HF A B D f g) : totN (fibP A B f g) ≤ 1048576 := by
  have hA := h.a.nodes
  have hB := h.b.nodes
  have h1 : ∀ r ∈ (fibP A B f g).ends, r.length ≤ 6 := fun r hr => by
    obtain ⟨p, hp, rfl⟩ := List.mem_map.1 (show r ∈ (PLf A B f g).map (prow A B f g) from hr)
    obtain ⟨v, w, hv, _, _, rfl⟩ := ftN_mem hp
    rw [prow_len rfl hv]
    have := (h.a.rows v hv).1; omega
  have h2 := totL_bd h1
  have h3 : (fibP A B f g).ends.length = (PLf A B f g).length := by simp [fibP]
  have h4 : (fibP A B f g).inputs.length = (PLf A B f g).length := by simp [fibP]
  have h5 : (fibP A B f g).ids.length = 0 := rfl
  have h6 : (PLf A B f g).length ≤ A.ends.length * B.ends.length := ftN_len
  have h7 : A.ends.length * B.ends.length ≤ 40 * 40 := Nat.mul_le_mul (by omega) (by omega)
  unfold totN; omega
theorem fib_of (h : NOk (fibP A B f g)) : 1 ≤ (PLf A B f g).length ∧ (PLf A B f g).length ≤ 40 := by
  have h1 := h.nodes
  have h2 : (fibP A B f g).ends.length = (PLf A B f g).length := by simp [fibP]
  omega
theorem PLf_le (h : HF A B D f g) : (PLf A B f g).length ≤ 1600 := by
  have hA := h.a.nodes
  have hB := h.b.nodes
  have h6 : (PLf A B f g).length ≤ A.ends.length * B.ends.length := ftN_len
  have h7 : A.ends.length * B.ends.length ≤ 40 * 40 := Nat.mul_le_mul (by omega) (by omega)
  omega
end
theorem pl_le {f g : List Int} {nB i k : Nat} (h1 : i < 40) (h2 : nB ≤ 40) (h3 : k ≤ 40) : (pl f g nB i k).length ≤ 1640 := by
  have h6 := ftN_len (f := f) (g := g) (nB := nB) (i := i)
  have h7 : i * nB ≤ 40 * 40 := Nat.mul_le_mul (by omega) h2
  have h8 := ftR_len (f := f) (g := g) (i := i) (k := k)
  unfold pl; rw [List.length_append]; omega

set_option maxHeartbeats 1000000 in
set_option maxRecDepth 100000 in
theorem FibreProduct_spec {loA hiA : Nat} (nA : NA) (A : Net) {loB hiB : Nat} (nB : NA) (B : Net) {loD hiD : Nat} (nD : NA) (D : Net) {loff hiff : Nat} (aff : Option Addr) (cff : Nat) (ff : List Int) {logg higg : Nat} (agg : Option Addr) (cgg : Nat) (gg : List Int) (w : World) (hA : IsNet loA hiA w nA A) (hhiA : hiA ≤ w.heap.size) (hnA : totN A ≤ 1048576) (hB : IsNet loB hiB w nB B) (hhiB : hiB ≤ w.heap.size) (hnB : totN B ≤ 1048576) (hD : IsNet loD hiD w nD D) (hhiD : hiD ≤ w.heap.size) (hnD : totN D ≤ 1048576) (hff : Ints loff hiff w aff cff ff) (hhiff : hiff ≤ w.heap.size) (hnff : ff.length ≤ 1048576) (hgg : Ints logg higg w agg cgg gg) (hhigg : higg ≤ w.heap.size) (hngg : gg.length ≤ 1048576) :
    Fn Try.prog 19 #[netV nA A, netV nB B, netV nD D, .slice aff ff.length cff, .slice agg gg.length cgg] w (fun o9 w' => ∃ h' U q, o9 = .tuple #[netV h' U, VB q] ∧ RV (⟨[], [], []⟩ : Net) (opt (HF A B D ff gg ∧ 1 ≤ (PLf A B ff gg).length ∧ (PLf A B ff gg).length ≤ 40) (fibP A B ff gg)) U q ∧ OwnNet w.heap.size w'.heap.size w' 61 3 h' U ∧ totN U ≤ 1048576 ∧ Ext w w') := by
  have hqA := totL_len A.ends
  have hmA : totL A.ends + A.ids.length + A.inputs.length ≤ 1048576 := hnA
  have hqB := totL_len B.ends
  have hmB : totL B.ends + B.ids.length + B.inputs.length ≤ 1048576 := hnB
  have hqD := totL_len D.ends
  have hmD : totL D.ends + D.ids.length + D.inputs.length ≤ 1048576 := hnD
  have hE := Ext.refl w
  refine Fn_of Try.func19 rfl rfl (by kernel_rfl) rfl ?_
  refine W_seq ?_
  refine W_region ?_
  refine WL_m rfl (ev_box rfl) ?_
  rintro _ w5 ⟨rfl, hN5⟩
  have hz5 := hN5.size
  replace hE := hE.trans hN5.ext
  replace hA := hA.ext hN5.ext
  replace hB := hB.ext hN5.ext
  replace hD := hD.ext hN5.ext
  replace hff := hff.ext hN5.ext
  replace hgg := hgg.ext hN5.ext
  have hB5 : Blk w5 _ _ [_, _, _] := hN5.blk
  refine WL_m rfl (ev_box rfl) ?_
  rintro _ w6 ⟨rfl, hN6⟩
  have hz6 := hN6.size
  replace hE := hE.trans hN6.ext
  replace hA := hA.ext hN6.ext
  replace hB := hB.ext hN6.ext
  replace hD := hD.ext hN6.ext
  replace hff := hff.ext hN6.ext
  replace hgg := hgg.ext hN6.ext
  replace hB5 := hB5.ext hN6.ext
  have hB6 : Blk w6 _ _ [_, _, _] := hN6.blk
  refine WL_m rfl (ev_box rfl) ?_
  rintro _ w7 ⟨rfl, hN7⟩
  have hz7 := hN7.size
  replace hE := hE.trans hN7.ext
  replace hA := hA.ext hN7.ext
  replace hB := hB.ext hN7.ext
  replace hD := hD.ext hN7.ext
  replace hff := hff.ext hN7.ext
  replace hgg := hgg.ext hN7.ext
  replace hB5 := hB5.ext hN7.ext
  replace hB6 := hB6.ext hN7.ext
  have hB7 : Blk w7 _ _ [_, _, _] := hN7.blk
  refine WL_m rfl (ev_alloc zr31) ?_
  rintro _ w10 ⟨rfl, hN10⟩
  have hz10 := hN10.size
  replace hE := hE.trans hN10.ext
  replace hA := hA.ext hN10.ext
  replace hB := hB.ext hN10.ext
  replace hD := hD.ext hN10.ext
  replace hff := hff.ext hN10.ext
  replace hgg := hgg.ext hN10.ext
  replace hB5 := hB5.ext hN10.ext
  replace hB6 := hB6.ext hN10.ext
  replace hB7 := hB7.ext hN10.ext
  have hB10 : Blk w10 _ _ [_, _, _] := hN10.blk
  refine WL_q rfl (ev_assign rfl) ?_
  refine WL_nil ?_
  refine thenE_n ?_
  refine W_seq ?_
  refine W_seq ?_
  refine W_region ?_
  refine WL_q rfl (ev_loads st31 sz31 rfl (cellsB hB5) rfl) ?_
  refine WL_q rfl (ev_loads st31 sz31 rfl (cellsB hB7) rfl) ?_
  refine WL_q rfl (ev_move rfl) ?_
  refine WL_m rfl (ev_call rfl (mapOk_spec _ _ A D _ _ ff _ hA hD hff (by omega) (by omega) (by omega) (by omega) (by omega) (by omega))) ?_
  rintro _ w25 ⟨b25, rfl, hb25, hE25⟩
  have hz25 := hE25.size
  replace hE := hE.trans hE25
  replace hA := hA.ext hE25
  replace hB := hB.ext hE25
  replace hD := hD.ext hE25
  replace hff := hff.ext hE25
  replace hgg := hgg.ext hE25
  replace hB5 := hB5.ext hE25
  replace hB6 := hB6.ext hE25
  replace hB7 := hB7.ext hE25
  replace hB10 := hB10.ext hE25
  refine WL_q rfl (ev_not rfl) ?_
  refine WL_q rfl (ev_move rfl) ?_
  refine WL_splitv (t := 27) rfl (fun hg26 => ?_) (fun hg26 => ?_)
  · have hg25 := not_true hg26
    have hp25 := ttN hb25 hg25
    refine WL_no rfl rfl hg26 rfl ?_
    refine WL_no rfl rfl hg26 rfl ?_
    refine WL_no rfl rfl hg26 rfl ?_
    refine WL_no rfl rfl hg26 rfl ?_
    refine WL_no rfl rfl hg26 rfl ?_
    refine WL_q rfl (ev_pick_t rfl hg26 rfl) ?_
    refine WL_nil ?_
    refine thenE_n ?_
    refine W_cond_t rfl ?_
    refine W_seq ?_
    refine W_region ?_
    refine WL_q rfl (ev_buildP0 sn31_3 zr31 ) ?_
    refine WL_s (ev_stores sz31 rfl rfl rfl (by simp [Value.oneCell']) hB10 (by simp)) ?_
    rintro _ w2_1 hS2_1
    have hz2_1 := hS2_1.size
    replace hE := hE.sto hS2_1 (by omega)
    replace hA := hA.sto hS2_1 (by omega)
    replace hB := hB.sto hS2_1 (by omega)
    replace hD := hD.sto hS2_1 (by omega)
    replace hff := hff.sto hS2_1 (by omega)
    replace hgg := hgg.sto hS2_1 (by omega)
    replace hB5 := hB5.sto hS2_1 (by omega)
    replace hB6 := hB6.sto hS2_1 (by omega)
    replace hB7 := hB7.sto hS2_1 (by omega)
    replace hB10 : Blk w2_1 _ _ [_, _, _] := hS2_1.blk
    refine WL_q rfl (ev_assign rfl) ?_
    refine WL_nil ?_
    refine thenE_n ?_
    refine W_ret ?_
    refine thenE_r ?_
    refine retc2 rfl rfl st31 sz31 (cellsB hB10) rfl rfl ?_
    first | (exact ⟨⟨none, 0, none, 0, none, 0⟩, ⟨[], [], []⟩, _, rfl, .no (fun h => hp25 ⟨h.1.a, h.1.d, h.1.pf⟩), OwnNet.nil, by decide, hE⟩) | (exact ⟨⟨none, 0, none, 0, none, 0⟩, ⟨[], [], []⟩, _, rfl, .no (fun h => hp31 ⟨h.1.b, h.1.d, h.1.pg⟩), OwnNet.nil, by decide, hE⟩) | (exact hq130.elim (fun ⟨e1, h1, e2, e3⟩ => (by subst e1 e2 e3; exact ⟨_, fibP A B ff gg, _, rfl, .yes ⟨hH, fib_of h1⟩ rfl, OwnNet.up ⟨_, _, hN⟩ (by omega) (by omega), fib_tot hH, hE⟩)) (fun ⟨e1, h1, e2, e3⟩ => (by subst e1 e2 e3; exact ⟨⟨none, 0, none, 0, none, 0⟩, ⟨[], [], []⟩, _, rfl, .no (fun h => h1 (fib_ok h.1 h.2.1 h.2.2)), OwnNet.nil, by decide, hE⟩)))
  · have hg25 := not_false hg26
    have hp25 := hb25.1 hg25
    refine WL_qg rfl rfl hg26 rfl (ev_loads st31 sz31 rfl (cellsB hB6) rfl) ?_
    refine WL_qg rfl rfl hg26 rfl (ev_loads st31 sz31 rfl (cellsB hB7) rfl) ?_
    refine WL_qg rfl rfl hg26 rfl (ev_move rfl) ?_
    refine WL_mg rfl rfl hg26 rfl (ev_call rfl (mapOk_spec _ _ B D _ _ gg _ hB hD hgg (by omega) (by omega) (by omega) (by omega) (by omega) (by omega))) ?_
    rintro _ w31 ⟨b31, rfl, hb31, hE31⟩
    have hz31 := hE31.size
    replace hE := hE.trans hE31
    replace hA := hA.ext hE31
    replace hB := hB.ext hE31
    replace hD := hD.ext hE31
    replace hff := hff.ext hE31
    replace hgg := hgg.ext hE31
    replace hB5 := hB5.ext hE31
    replace hB6 := hB6.ext hE31
    replace hB7 := hB7.ext hE31
    replace hB10 := hB10.ext hE31
    refine WL_qg rfl rfl hg26 rfl (ev_not rfl) ?_
    refine WL_q rfl (ev_pick_f rfl hg26 rfl) ?_
    refine WL_nil ?_
    refine thenE_n ?_
    refine W_cond rfl (fun hg32 => ?_) (fun hg32 => ?_)
    · have hg31 := not_true hg32
      have hp31 := ttN hb31 hg31
      refine W_seq ?_
      refine W_region ?_
      refine WL_q rfl (ev_buildP0 sn31_3 zr31 ) ?_
      refine WL_s (ev_stores sz31 rfl rfl rfl (by simp [Value.oneCell']) hB10 (by simp)) ?_
      rintro _ w2_1 hS2_1
      have hz2_1 := hS2_1.size
      replace hE := hE.sto hS2_1 (by omega)
      replace hA := hA.sto hS2_1 (by omega)
      replace hB := hB.sto hS2_1 (by omega)
      replace hD := hD.sto hS2_1 (by omega)
      replace hff := hff.sto hS2_1 (by omega)
      replace hgg := hgg.sto hS2_1 (by omega)
      replace hB5 := hB5.sto hS2_1 (by omega)
      replace hB6 := hB6.sto hS2_1 (by omega)
      replace hB7 := hB7.sto hS2_1 (by omega)
      replace hB10 : Blk w2_1 _ _ [_, _, _] := hS2_1.blk
      refine WL_q rfl (ev_assign rfl) ?_
      refine WL_nil ?_
      refine thenE_n ?_
      refine W_ret ?_
      refine thenE_r ?_
      refine retc2 rfl rfl st31 sz31 (cellsB hB10) rfl rfl ?_
      first | (exact ⟨⟨none, 0, none, 0, none, 0⟩, ⟨[], [], []⟩, _, rfl, .no (fun h => hp25 ⟨h.1.a, h.1.d, h.1.pf⟩), OwnNet.nil, by decide, hE⟩) | (exact ⟨⟨none, 0, none, 0, none, 0⟩, ⟨[], [], []⟩, _, rfl, .no (fun h => hp31 ⟨h.1.b, h.1.d, h.1.pg⟩), OwnNet.nil, by decide, hE⟩) | (exact hq130.elim (fun ⟨e1, h1, e2, e3⟩ => (by subst e1 e2 e3; exact ⟨_, fibP A B ff gg, _, rfl, .yes ⟨hH, fib_of h1⟩ rfl, OwnNet.up ⟨_, _, hN⟩ (by omega) (by omega), fib_tot hH, hE⟩)) (fun ⟨e1, h1, e2, e3⟩ => (by subst e1 e2 e3; exact ⟨⟨none, 0, none, 0, none, 0⟩, ⟨[], [], []⟩, _, rfl, .no (fun h => h1 (fib_ok h.1 h.2.1 h.2.2)), OwnNet.nil, by decide, hE⟩)))
    · have hg31 := not_false hg32
      have hp31 := hb31.1 hg31
      refine W_skip ?_
      refine thenE_n ?_
      refine W_seq ?_
      refine W_region ?_
      refine WL_q rfl (ev_assign rfl) ?_
      refine WL_nil ?_
      refine thenE_n ?_
      refine W_seq ?_
      refine W_region ?_
      have hH : HF A B D ff gg := ⟨hp25.1, hp31.1, hp25.2.1, hp25.2.2, hp31.2.2⟩
      have hnA9 := hH.a.nodes
      have hnB9 := hH.b.nodes
      have hfl := hH.lenf
      have hgl := hH.leng
      have hPl9 : (ftN ff gg B.ends.length A.ends.length).length ≤ 1600 := PLf_le hH
      have hinA := hH.a.inLen
      have h6 := hH.a.six
      have h6B := hH.b.six
      have hkA := hH.a.endsOk
      have hkB := hH.b.endsOk
      refine WL_m rfl (ev_makeMap (κ := Int × Int) (μ := Int) (K := 70) (ek := VPair) (em := VI)) ?_
      rintro _ w35 ⟨rfl, hE35, hz35, hM35⟩
      replace hE := hE.trans hE35
      replace hA := hA.ext hE35
      replace hB := hB.ext hE35
      replace hD := hD.ext hE35
      replace hff := hff.ext hE35
      replace hgg := hgg.ext hE35
      replace hB5 := hB5.ext hE35
      replace hB6 := hB6.ext hE35
      replace hB7 := hB7.ext hE35
      replace hB10 := hB10.ext hE35
      have hm35 := hM35.lt
      refine WL_q rfl (ev_assign rfl) ?_
      refine WL_nil ?_
      refine thenE_n ?_
      refine W_seq ?_
      refine W_seq ?_
      refine W_region ?_
      refine WL_q rfl (ev_fieldAddr fo31_0 rfl) ?_
      refine WL_q rfl (ev_load one29 rfl (hB5.cell rfl)) ?_
      refine WL_q rfl (ev_len Try.underlying29 rfl) ?_
      refine WL_q rfl (ev_move rfl) ?_
      refine WL_nil ?_
      refine thenE_n ?_
      refine W_block ?_
      refine W_loopC (G := Nat × Option Addr × Nat) [(3, _), (4, _), (5, _), (6, _), (10, _), (13, _), (38, _)] ((Subs.c rfl (Subs.c rfl (Subs.c rfl (Subs.c rfl (Subs.c rfl (Subs.c rfl (Subs.c rfl Subs.n)))))))) (fun ⟨i, a, c⟩ => [(12, .slice a (ftN ff gg B.ends.length i).length c), (39, VI (i : Int))]) (fun ⟨i, a, c⟩ w' => Lo (w31.heap.size) w35 w' ∧ i ≤ A.ends.length ∧ Mp Try.prog 70 VPair VI w' w31.heap.size (kvP (ftN ff gg B.ends.length i)) ∧ OwnH w35.heap.size w'.heap.size 0 0 w' 70 2 a (ftN ff gg B.ends.length i).length c (pairCells (ftN ff gg B.ends.length i))) (fun g => A.ends.length - g.1) (0, none, 0) ((Subs.c rfl (Subs.c (lkI rfl (by omega)) Subs.n))) (⟨Lo.refl (by omega), ⟨Nat.zero_le _, hM35, OwnH.nil⟩⟩) ?_
      rintro ⟨i, a, c⟩ wL0 ⟨hRL0, hi', hM, hO⟩
      have hzL0 := hRL0.size
      replace hA := hA.lo hRL0 (by omega)
      replace hB := hB.lo hRL0 (by omega)
      replace hD := hD.lo hRL0 (by omega)
      replace hff := hff.lo hRL0 (by omega)
      replace hgg := hgg.lo hRL0 (by omega)
      replace hB5 := hB5.lo hRL0 (by omega)
      replace hB6 := hB6.lo hRL0 (by omega)
      replace hB7 := hB7.lo hRL0 (by omega)
      replace hB10 := hB10.lo hRL0 (by omega)
      replace hE := hE.lo hRL0 (by omega)
      refine W_seq ?_
      refine W_region ?_
      refine WL_q rfl (ev_lss rfl rfl) ?_
      refine WL_nil ?_
      refine thenE_n ?_
      refine W_seq ?_
      refine W_cond rfl (fun hg40 => ?_) (fun hg40 => ?_)
      · have hp40 := of_decide_eq_true hg40
        refine W_skip ?_
        refine thenE_n ?_
        refine W_seq ?_
        refine W_block ?_
        refine W_seq ?_
        refine W_region ?_
        refine WL_q rfl (ev_move rfl) ?_
        refine WL_q rfl (ev_assign rfl) ?_
        refine WL_nil ?_
        refine thenE_n ?_
        refine W_seq ?_
        refine W_region ?_
        have hlt : i < A.ends.length := by omega
        refine WL_q rfl (ev_fieldAddr fo31_0 rfl) ?_
        refine WL_q rfl (ev_load one29 rfl (hB6.cell rfl)) ?_
        refine WL_q rfl (ev_len Try.underlying29 rfl) ?_
        refine WL_q rfl (ev_move rfl) ?_
        refine WL_nil ?_
        refine thenE_n ?_
        refine W_block ?_
        refine W_loopC (G := Nat × Option Addr × Nat) [(3, _), (4, _), (5, _), (6, _), (10, _), (13, _), (14, _), (38, _), (39, _), (44, _)] ((Subs.c rfl (Subs.c rfl (Subs.c rfl (Subs.c rfl (Subs.c rfl (Subs.c rfl (Subs.c rfl (Subs.c rfl (Subs.c rfl (Subs.c rfl Subs.n))))))))))) (fun ⟨k, a2, c2⟩ => [(12, .slice a2 (pl ff gg B.ends.length i k).length c2), (45, VI (k : Int))]) (fun ⟨k, a2, c2⟩ w' => Lo (w31.heap.size) wL0 w' ∧ k ≤ B.ends.length ∧ Mp Try.prog 70 VPair VI w' w31.heap.size (kvP (pl ff gg B.ends.length i k)) ∧ OwnH w35.heap.size w'.heap.size 0 0 w' 70 2 a2 (pl ff gg B.ends.length i k).length c2 (pairCells (pl ff gg B.ends.length i k))) (fun g => B.ends.length - g.1) (0, a, c) ((Subs.c (lkS rfl (by rw [pl_zero])) (Subs.c (lkI rfl (by omega)) Subs.n))) (⟨Lo.refl (by omega), ⟨Nat.zero_le _, by rw [pl_zero]; exact hM, by rw [pl_zero]; exact hO⟩⟩) ?_
        rintro ⟨k, a2, c2⟩ wL2 ⟨hRL2, hk', hM, hO⟩
        have hzL2 := hRL2.size
        replace hA := hA.lo hRL2 (by omega)
        replace hB := hB.lo hRL2 (by omega)
        replace hD := hD.lo hRL2 (by omega)
        replace hff := hff.lo hRL2 (by omega)
        replace hgg := hgg.lo hRL2 (by omega)
        replace hB5 := hB5.lo hRL2 (by omega)
        replace hB6 := hB6.lo hRL2 (by omega)
        replace hB7 := hB7.lo hRL2 (by omega)
        replace hB10 := hB10.lo hRL2 (by omega)
        replace hE := hE.lo hRL2 (by omega)
        replace hRL0 := hRL0.lo hRL2 (by omega)
        have hpl := pl_le (f := ff) (g := gg) (nB := B.ends.length) (i := i) (k := k) (by omega) (by omega) (by omega)
        refine W_seq ?_
        refine W_region ?_
        refine WL_q rfl (ev_lss rfl rfl) ?_
        refine WL_nil ?_
        refine thenE_n ?_
        refine W_seq ?_
        refine W_cond rfl (fun hg46 => ?_) (fun hg46 => ?_)
        · have hp46 := of_decide_eq_true hg46
          refine W_skip ?_
          refine thenE_n ?_
          refine W_seq ?_
          refine W_block ?_
          refine W_seq ?_
          refine W_region ?_
          refine WL_q rfl (ev_move rfl) ?_
          refine WL_q rfl (ev_assign rfl) ?_
          refine WL_nil ?_
          refine thenE_n ?_
          refine W_seq ?_
          refine W_drawE [(0, true), (1, true), (2, true), (3, true), (4, true), (5, true), (6, true), (7, true), (8, true)] mixed (by kernel_rfl) rfl (by kernel_rfl) ?_
          intro wd11 hEd11 hzd11
          replace hE := hE.trans hEd11
          replace hRL0 := hRL0.trans hEd11
          replace hRL2 := hRL2.trans hEd11
          replace hA := hA.ext hEd11
          replace hB := hB.ext hEd11
          replace hD := hD.ext hEd11
          replace hff := hff.ext hEd11
          replace hgg := hgg.ext hEd11
          replace hB5 := hB5.ext hEd11
          replace hB6 := hB6.ext hEd11
          replace hB7 := hB7.ext hEd11
          replace hB10 := hB10.ext hEd11
          replace hM := hM.ext hEd11
          replace hO := hO.ext hEd11
          have hDd11 := Ext.refl wd11
          refine PW_q rfl rfl (fun wq hq => ev_move rfl) ?_
          refine PW_q rfl rfl (fun wq hq => ev_move rfl) ?_
          have hlk : k < B.ends.length := by omega
          refine PW_q rfl rfl (fun wq hq => ev_indexAddr Try.underlying23 sz3 rfl rfl (hff.isSome (by omega)) (by omega) (by omega)) ?_
          have hc51 := hff.cell (i := i) (by omega)
          refine PW_q rfl rfl (fun wq hq => ev_load one3 rfl (hq.cell (hc51))) ?_
          refine PW_q rfl rfl (fun wq hq => ev_move rfl) ?_
          refine PW_q rfl rfl (fun wq hq => ev_move rfl) ?_
          refine PW_q rfl rfl (fun wq hq => ev_indexAddr Try.underlying23 sz3 rfl rfl (hgg.isSome (by omega)) (by omega) (by omega)) ?_
          have hc55 := hgg.cell (i := k) (by omega)
          refine PW_q rfl rfl (fun wq hq => ev_load one3 rfl (hq.cell (hc55))) ?_
          refine PW_q rfl rfl (fun wq hq => ev_eql rfl rfl) ?_
          refine PW_nil ?_
          refine thenE_n ?_
          refine W_cond rfl (fun hg56 => ?_) (fun hg56 => ?_)
          · have hp56 := of_decide_eq_true hg56
            refine W_seq ?_
            refine W_region ?_
            refine WL_q rfl (ev_move rfl) ?_
            refine WL_q rfl (ev_move rfl) ?_
            refine WL_q rfl (ev_move rfl) ?_
            refine WL_q rfl (ev_build2 sn70_2 rfl rfl rfl rfl) ?_
            refine WL_q rfl (ev_move rfl) ?_
            refine WL_q rfl (ev_len Try.underlying67 rfl) ?_
            refine WL_s (ev_mapNew (k := ((i : Int), (k : Int))) (m := ((pl ff gg B.ends.length i k).length : Int)) qlaw VPair_inj Try.underlying68 rfl rfl rfl hM (qgood (by constructor <;> (simp only []; omega)) (by constructor <;> (simp only []; omega))) (by rw [kvP_keys]; exact pl_new)) ?_
            rintro _ w12_6 ⟨hK12_6, hz12_6, hM12_6⟩
            replace hE := hE.kx hK12_6 (by omega)
            replace hRL0 := hRL0.kx hK12_6 (by omega)
            replace hRL2 := hRL2.kx hK12_6 (by omega)
            replace hA := hA.kx hK12_6 (by omega)
            replace hB := hB.kx hK12_6 (by omega)
            replace hD := hD.kx hK12_6 (by omega)
            replace hff := hff.kx hK12_6 (by omega)
            replace hgg := hgg.kx hK12_6 (by omega)
            replace hB5 := hB5.kx hK12_6 (by omega)
            replace hB6 := hB6.kx hK12_6 (by omega)
            replace hB7 := hB7.kx hK12_6 (by omega)
            replace hB10 := hB10.kx hK12_6 (by omega)
            replace hO := hO.kx hK12_6 (by omega)
            replace hM := hM12_6
            refine WL_nil ?_
            refine thenE_n ?_
            refine W_region ?_
            refine WL_q rfl (ev_move rfl) ?_
            refine WL_q rfl (ev_move rfl) ?_
            refine WL_q rfl (ev_move rfl) ?_
            refine WL_q rfl (ev_build2 sn70_2 rfl rfl rfl rfl) ?_
            refine WL_m rfl (ev_lit1 Try.underlying67 el70 (by decide) (by decide) rfl rfl) ?_
            rintro _ w67 ⟨rfl, hN67⟩
            have hz67 := hN67.size
            replace hE := hE.trans hN67.ext
            replace hRL0 := hRL0.trans hN67.ext
            replace hRL2 := hRL2.trans hN67.ext
            replace hA := hA.ext hN67.ext
            replace hB := hB.ext hN67.ext
            replace hD := hD.ext hN67.ext
            replace hff := hff.ext hN67.ext
            replace hgg := hgg.ext hN67.ext
            replace hB5 := hB5.ext hN67.ext
            replace hB6 := hB6.ext hN67.ext
            replace hB7 := hB7.ext hN67.ext
            replace hB10 := hB10.ext hN67.ext
            replace hM := hM.ext hN67.ext
            replace hO := hO.ext hN67.ext
            have hB67 := hN67.blk
            refine WL_m rfl (ev_appendT Try.underlying67 el70 rfl (by decide) rfl rfl hO (SAt.of_blk (cs := [_, _]) (ds := []) hB67) rfl (by simp [Value.oneCell']) (by omega) (by unfold maxLen; omega) (by omega)) ?_
            rintro _ w68 ⟨a68, c68, rfl, hO68, hK68, hQ68⟩
            have hz68 := hK68.size
            replace hE := hE.rg hK68 (by omega)
            replace hRL0 := hRL0.rg hK68 (by omega)
            replace hRL2 := hRL2.rg hK68 (by omega)
            replace hA := hA.rg hK68 (by omega)
            replace hB := hB.rg hK68 (by omega)
            replace hD := hD.rg hK68 (by omega)
            replace hff := hff.rg hK68 (by omega)
            replace hgg := hgg.rg hK68 (by omega)
            replace hB5 := hB5.rg hK68 (by omega)
            replace hB6 := hB6.rg hK68 (by omega)
            replace hB7 := hB7.rg hK68 (by omega)
            replace hB10 := hB10.rg hK68 (by omega)
            replace hM := hM.rg hK68 (by omega)
            replace hB67 := hB67.rg hK68 (by omega)
            replace hO := hO68
            replace hO := ownt_snocP hO
            refine WL_q rfl (ev_assign rfl) ?_
            refine WL_nil ?_
            refine blockE_n ?_
            refine thenE_n ?_
            refine W_region ?_
            refine WL_q rfl (ev_add rfl rfl (by omega)) ?_
            refine WL_q rfl (ev_move rfl) ?_
            refine WL_nil ?_
            refine thenE_n ?_
            have he9 := eqv_t (f := ff) (g := gg) (i := i) (k := k) (by omega) (by omega) hp56
            exact ⟨(k + 1, a68, c68), (Subs.c rfl (Subs.c rfl (Subs.c rfl (Subs.c rfl (Subs.c rfl (Subs.c rfl (Subs.c rfl (Subs.c rfl (Subs.c rfl (Subs.c rfl Subs.n)))))))))), (Subs.c (lkS rfl (by rw [← pl_yes he9]; simp)) (Subs.c (lkI rfl (by omega)) Subs.n)), ⟨hRL2, ⟨by omega, by rw [← pl_yes he9, ← kvP_snoc]; exact hM, by rw [← pl_yes he9]; exact (ownt_toP hO rfl (by simp)).up (Nat.le_refl _) (by omega)⟩⟩, by first | omega | (dsimp only; omega)⟩
          · have hp56 := of_decide_eq_false hg56
            refine W_skip ?_
            refine blockE_n ?_
            refine thenE_n ?_
            refine W_region ?_
            refine WL_q rfl (ev_add rfl rfl (by omega)) ?_
            refine WL_q rfl (ev_move rfl) ?_
            refine WL_nil ?_
            refine thenE_n ?_
            have he9 := eqv_f (f := ff) (g := gg) (i := i) (k := k) (by omega) (by omega) hp56
            exact ⟨(k + 1, a2, c2), (Subs.c rfl (Subs.c rfl (Subs.c rfl (Subs.c rfl (Subs.c rfl (Subs.c rfl (Subs.c rfl (Subs.c rfl (Subs.c rfl (Subs.c rfl Subs.n)))))))))), (Subs.c (lkS rfl (by rw [pl_no he9])) (Subs.c (lkI rfl (by omega)) Subs.n)), ⟨hRL2, ⟨by omega, by rw [pl_no he9]; exact hM, by rw [pl_no he9]; exact hO.up (Nat.le_refl _) (by omega)⟩⟩, by first | omega | (dsimp only; omega)⟩
        · have hp46 := of_decide_eq_false hg46
          refine W_exit ?_
          refine thenE_x ?_
          refine thenE_x ?_
          refine blockE_hit ?_
          refine blockE_n ?_
          refine thenE_n ?_
          refine W_region ?_
          refine WL_q rfl (ev_add rfl rfl (by omega)) ?_
          refine WL_q rfl (ev_move rfl) ?_
          refine WL_nil ?_
          refine thenE_n ?_
          have hk9 : k = B.ends.length := by omega
          rw [hk9] at hM hO
          exact ⟨(i + 1, a2, c2), (Subs.c rfl (Subs.c rfl (Subs.c rfl (Subs.c rfl (Subs.c rfl (Subs.c rfl (Subs.c rfl Subs.n))))))), (Subs.c (lkS rfl (by rw [hk9]; rfl)) (Subs.c (lkI rfl (by omega)) Subs.n)), ⟨hRL0, ⟨by omega, hM, hO⟩⟩, by first | omega | (dsimp only; omega)⟩
      · have hp40 := of_decide_eq_false hg40
        refine W_exit ?_
        refine thenE_x ?_
        refine thenE_x ?_
        refine blockE_hit ?_
        refine thenE_n ?_
        refine W_seq ?_
        refine W_region ?_
        refine WL_m rfl (ev_alloc zr31) ?_
        rintro _ w16 ⟨rfl, hN16⟩
        have hz16 := hN16.size
        replace hE := hE.trans hN16.ext
        replace hA := hA.ext hN16.ext
        replace hB := hB.ext hN16.ext
        replace hD := hD.ext hN16.ext
        replace hff := hff.ext hN16.ext
        replace hgg := hgg.ext hN16.ext
        replace hB5 := hB5.ext hN16.ext
        replace hB6 := hB6.ext hN16.ext
        replace hB7 := hB7.ext hN16.ext
        replace hB10 := hB10.ext hN16.ext
        replace hM := hM.ext hN16.ext
        replace hO := hO.ext hN16.ext
        have hB16 : Blk w16 _ _ [_, _, _] := hN16.blk
        refine WL_nil ?_
        refine thenE_n ?_
        refine W_seq ?_
        refine W_seq ?_
        refine W_region ?_
        have hi9 : i = A.ends.length := by omega
        subst hi9
        refine WL_q rfl (ev_move rfl) ?_
        refine WL_q rfl (ev_len Try.underlying67 rfl) ?_
        refine WL_q rfl (ev_move rfl) ?_
        refine WL_nil ?_
        refine thenE_n ?_
        refine W_block ?_
        refine W_loopC (G := Nat × Option Addr × Nat × Option Addr × Nat × List (Option Addr × Nat)) [(5, _), (6, _), (10, _), (13, _), (16, _), (71, _), (72, _)] ((Subs.c rfl (Subs.c rfl (Subs.c rfl (Subs.c rfl (Subs.c rfl (Subs.c rfl (Subs.c rfl Subs.n)))))))) (fun ⟨t, a4, c4, a3, c3, vs⟩ => [(73, VI (t : Int))]) (fun ⟨t, a4, c4, a3, c3, vs⟩ w' => Lo (wL0.heap.size) w16 w' ∧ t ≤ (ftN ff gg B.ends.length A.ends.length).length ∧ Blk w' wL0.heap.size 31 [.slice a4 (fbE A B ff gg t).length c4, .slice none 0 0, .slice a3 (fbI A B ff gg t).length c3] ∧ NAcc w16.heap.size w'.heap.size w' 61 56 3 vs ⟨a4, c4, none, 0, a3, c3⟩ ⟨fbE A B ff gg t, [], fbI A B ff gg t⟩) (fun g => (ftN ff gg B.ends.length A.ends.length).length - g.1) (0, none, 0, none, 0, []) ((Subs.c (lkI rfl (by omega)) Subs.n)) (⟨Lo.refl (by omega), ⟨Nat.zero_le _, hB16, NAcc.nil⟩⟩) ?_
        rintro ⟨t, a4, c4, a3, c3, vs⟩ wL4 ⟨hRL4, ht', hB16, hN⟩
        have hzL4 := hRL4.size
        replace hA := hA.lo hRL4 (by omega)
        replace hB := hB.lo hRL4 (by omega)
        replace hD := hD.lo hRL4 (by omega)
        replace hff := hff.lo hRL4 (by omega)
        replace hgg := hgg.lo hRL4 (by omega)
        replace hB5 := hB5.lo hRL4 (by omega)
        replace hB6 := hB6.lo hRL4 (by omega)
        replace hB7 := hB7.lo hRL4 (by omega)
        replace hB10 := hB10.lo hRL4 (by omega)
        replace hM := hM.lo hRL4 (by omega)
        replace hO := hO.lo hRL4 (by omega)
        replace hE := hE.lo hRL4 (by omega)
        have hfe := fbE_len (A := A) (B := B) (f := ff) (g := gg) ht'
        have hfi := fbI_len (A := A) (B := B) (f := ff) (g := gg) ht'
        refine W_seq ?_
        refine W_region ?_
        refine WL_q rfl (ev_lss rfl rfl) ?_
        refine WL_nil ?_
        refine thenE_n ?_
        refine W_seq ?_
        refine W_cond rfl (fun hg74 => ?_) (fun hg74 => ?_)
        · have hp74 := of_decide_eq_true hg74
          refine W_skip ?_
          refine thenE_n ?_
          refine W_seq ?_
          refine W_block ?_
          refine W_seq ?_
          refine W_region ?_
          have hltt : t < (ftN ff gg B.ends.length A.ends.length).length := by omega
          obtain ⟨v9, w9, hv9, hw9, he9, e91, e92⟩ := num_of hltt
          have hfe2 : (fbE A B ff gg (t + 1)).length = t + 1 := fbE_len hltt
          have hfi2 : (fbI A B ff gg (t + 1)).length = t + 1 := fbI_len hltt
          have hd9 := hH.deg hv9 hw9 he9
          have h6v := h6 _ (List.getElem_mem hv9)
          refine WL_q rfl (ev_indexAddr Try.underlying67 sz70 rfl rfl ((ownt_p hO).isSome (by omega)) (by omega) (by omega)) ?_
          refine WL_q rfl (ev_loads st70 sz70 rfl ((ownt_p hO).cells (i := t) (by omega)) rfl) ?_
          rw [e91]
          dsimp only
          refine WL_m rfl (ev_alloc zr70) ?_
          rintro _ w18 ⟨rfl, hN18⟩
          have hz18 := hN18.size
          replace hE := hE.trans hN18.ext
          replace hRL4 := hRL4.trans hN18.ext
          replace hA := hA.ext hN18.ext
          replace hB := hB.ext hN18.ext
          replace hD := hD.ext hN18.ext
          replace hff := hff.ext hN18.ext
          replace hgg := hgg.ext hN18.ext
          replace hB5 := hB5.ext hN18.ext
          replace hB6 := hB6.ext hN18.ext
          replace hB7 := hB7.ext hN18.ext
          replace hB10 := hB10.ext hN18.ext
          replace hM := hM.ext hN18.ext
          replace hO := hO.ext hN18.ext
          replace hB16 := hB16.ext hN18.ext
          replace hN := hN.ext hN18.ext
          have hB18 : Blk w18 _ _ [_, _] := hN18.blk
          refine WL_s (ev_stores sz70 rfl rfl rfl (by simp [Value.oneCell']) hB18 (by simp)) ?_
          rintro _ w19_3 hS19_3
          have hz19_3 := hS19_3.size
          replace hE := hE.sto hS19_3 (by omega)
          replace hRL4 := hRL4.sto hS19_3 (by omega)
          replace hA := hA.sto hS19_3 (by omega)
          replace hB := hB.sto hS19_3 (by omega)
          replace hD := hD.sto hS19_3 (by omega)
          replace hff := hff.sto hS19_3 (by omega)
          replace hgg := hgg.sto hS19_3 (by omega)
          replace hB5 := hB5.sto hS19_3 (by omega)
          replace hB6 := hB6.sto hS19_3 (by omega)
          replace hB7 := hB7.sto hS19_3 (by omega)
          replace hB10 := hB10.sto hS19_3 (by omega)
          replace hM := hM.sto hS19_3 (by omega)
          replace hO := hO.sto hS19_3 (by omega)
          replace hB16 := hB16.sto hS19_3 (by omega)
          replace hN := hN.sto hS19_3 (by omega)
          replace hB18 : Blk w19_3 _ _ [_, _] := hS19_3.blk
          refine WL_nil ?_
          refine thenE_n ?_
          refine W_seq ?_
          refine W_region ?_
          refine WL_q rfl (ev_assign rfl) ?_
          refine WL_nil ?_
          refine thenE_n ?_
          refine W_seq ?_
          refine W_seq ?_
          refine W_region ?_
          refine WL_q rfl (ev_fieldAddr fo31_0 rfl) ?_
          refine WL_q rfl (ev_load one29 rfl (hB5.cell rfl)) ?_
          refine WL_q rfl (ev_fieldAddr fo70_0 rfl) ?_
          refine WL_q rfl (ev_load one3 rfl (hB18.cell rfl)) ?_
          have hl81 : v9 < A.ends.length := by omega
          have ht81 := totL_le hl81
          obtain ⟨a81, c81, hc81, hr81⟩ := hA.ends.row hl81
          refine WL_q rfl (ev_indexAddr Try.underlying29 sz56 rfl rfl (hA.ends.isSome (by omega)) (by omega) (by omega)) ?_
          refine WL_q rfl (ev_load one56 rfl (hc81)) ?_
          refine WL_q rfl (ev_len Try.underlying56 rfl) ?_
          refine WL_q rfl (ev_move rfl) ?_
          refine WL_nil ?_
          refine thenE_n ?_
          refine W_block ?_
          refine W_loopC (G := Nat × Option Addr × Nat) [(5, _), (6, _), (10, _), (13, _), (16, _), (18, _), (71, _), (72, _), (73, _), (82, _), (83, _)] ((Subs.c rfl (Subs.c rfl (Subs.c rfl (Subs.c rfl (Subs.c rfl (Subs.c rfl (Subs.c rfl (Subs.c rfl (Subs.c rfl (Subs.c rfl (Subs.c rfl Subs.n)))))))))))) (fun ⟨k, a6, c6⟩ => [(19, .slice a6 ((prow A B ff gg ((v9 : Int), (w9 : Int))).take k).length c6), (84, VI (k : Int))]) (fun ⟨k, a6, c6⟩ w' => Ext w19_3 w' ∧ k ≤ A.ends[v9].length ∧ OwnH w19_3.heap.size w'.heap.size 0 0 w' 61 2 a6 ((prow A B ff gg ((v9 : Int), (w9 : Int))).take k).length c6 (pairCells ((prow A B ff gg ((v9 : Int), (w9 : Int))).take k))) (fun g => A.ends[v9].length - g.1) (0, none, 0) ((Subs.c (lkS rfl (by simp)) (Subs.c (lkI rfl (by omega)) Subs.n))) (⟨Ext.refl _, ⟨Nat.zero_le _, by rw [List.take_zero]; exact OwnH.nil⟩⟩) ?_
          rintro ⟨k, a6, c6⟩ wL6 ⟨hRL6, hk', hO6⟩
          have hzL6 := hRL6.size
          replace hE := hE.trans hRL6
          replace hRL4 := hRL4.trans hRL6
          replace hA := hA.ext hRL6
          replace hB := hB.ext hRL6
          replace hD := hD.ext hRL6
          replace hff := hff.ext hRL6
          replace hgg := hgg.ext hRL6
          replace hB5 := hB5.ext hRL6
          replace hB6 := hB6.ext hRL6
          replace hB7 := hB7.ext hRL6
          replace hB10 := hB10.ext hRL6
          replace hM := hM.ext hRL6
          replace hO := hO.ext hRL6
          replace hB16 := hB16.ext hRL6
          replace hN := hN.ext hRL6
          replace hB18 := hB18.ext hRL6
          replace hr81 := hr81.ext hRL6
          have hprl : ((prow A B ff gg ((v9 : Int), (w9 : Int))).take k).length ≤ 6 := by rw [List.length_take]; omega
          refine W_seq ?_
          refine W_region ?_
          refine WL_q rfl (ev_lss rfl rfl) ?_
          refine WL_nil ?_
          refine thenE_n ?_
          refine W_seq ?_
          refine W_cond rfl (fun hg85 => ?_) (fun hg85 => ?_)
          · have hp85 := of_decide_eq_true hg85
            refine W_skip ?_
            refine thenE_n ?_
            refine W_seq ?_
            refine W_block ?_
            refine W_seq ?_
            refine W_region ?_
            refine WL_q rfl (ev_move rfl) ?_
            have hlk9 : k < A.ends[v9].length := by omega
            have hlkB : k < B.ends[w9].length := by omega
            obtain ⟨s91, s92, s93, s94⟩ := hH.step hv9 hw9 he9 hlk9 hlkB
            obtain ⟨he1, he2, he3, he4, he5⟩ := hH.a.endOk hv9 hlk9
            obtain ⟨hf1, hf2, hf3, hf4, hf5⟩ := hH.b.endOk hw9 hlkB
            refine WL_q rfl (ev_indexAddr Try.underlying56 sz61 rfl rfl (hr81.isSome (by omega)) (by omega) (by omega)) ?_
            refine WL_q rfl (ev_loads st61 sz61 rfl (hr81.cells (i := k) (by omega)) rfl) ?_
            refine WL_m rfl (ev_alloc zr61) ?_
            rintro _ w21 ⟨rfl, hN21⟩
            have hz21 := hN21.size
            replace hE := hE.trans hN21.ext
            replace hRL4 := hRL4.trans hN21.ext
            replace hRL6 := hRL6.trans hN21.ext
            replace hA := hA.ext hN21.ext
            replace hB := hB.ext hN21.ext
            replace hD := hD.ext hN21.ext
            replace hff := hff.ext hN21.ext
            replace hgg := hgg.ext hN21.ext
            replace hB5 := hB5.ext hN21.ext
            replace hB6 := hB6.ext hN21.ext
            replace hB7 := hB7.ext hN21.ext
            replace hB10 := hB10.ext hN21.ext
            replace hM := hM.ext hN21.ext
            replace hO := hO.ext hN21.ext
            replace hB16 := hB16.ext hN21.ext
            replace hN := hN.ext hN21.ext
            replace hB18 := hB18.ext hN21.ext
            replace hr81 := hr81.ext hN21.ext
            replace hO6 := hO6.ext hN21.ext
            have hB21 : Blk w21 _ _ [_, _] := hN21.blk
            refine WL_q rfl (ev_assign rfl) ?_
            refine WL_s (ev_stores sz61 rfl rfl rfl (by simp [Value.oneCell']) hB21 (by simp)) ?_
            rintro _ w23_5 hS23_5
            have hz23_5 := hS23_5.size
            replace hE := hE.sto hS23_5 (by omega)
            replace hRL4 := hRL4.sto hS23_5 (by omega)
            replace hRL6 := hRL6.sto hS23_5 (by omega)
            replace hA := hA.sto hS23_5 (by omega)
            replace hB := hB.sto hS23_5 (by omega)
            replace hD := hD.sto hS23_5 (by omega)
            replace hff := hff.sto hS23_5 (by omega)
            replace hgg := hgg.sto hS23_5 (by omega)
            replace hB5 := hB5.sto hS23_5 (by omega)
            replace hB6 := hB6.sto hS23_5 (by omega)
            replace hB7 := hB7.sto hS23_5 (by omega)
            replace hB10 := hB10.sto hS23_5 (by omega)
            replace hM := hM.sto hS23_5 (by omega)
            replace hO := hO.sto hS23_5 (by omega)
            replace hB16 := hB16.sto hS23_5 (by omega)
            replace hN := hN.sto hS23_5 (by omega)
            replace hB18 := hB18.sto hS23_5 (by omega)
            replace hr81 := hr81.sto hS23_5 (by omega)
            replace hO6 := hO6.sto hS23_5 (by omega)
            replace hB21 : Blk w23_5 _ _ [_, _] := hS23_5.blk
            refine WL_nil ?_
            refine thenE_n ?_
            refine W_drawR w19_3.heap.size wL6.heap.size 0 0 (fun w' => True) [(0, true), (1, true), (2, true), (3, true), (4, true), (5, true), (6, true), (7, true), (8, true), (9, true), (10, true), (11, true), (12, true), (13, true), (14, true), (15, true), (16, true), (17, true), (18, true), (19, false), (20, false), (21, true)] mixed (by kernel_rfl) rfl (by kernel_rfl) (fun _ _ => trivial) ?_
            intro wd24 hEd24 hzd24
            replace hE := hE.trans hEd24
            replace hRL4 := hRL4.trans hEd24
            replace hRL6 := hRL6.trans hEd24
            replace hA := hA.ext hEd24
            replace hB := hB.ext hEd24
            replace hD := hD.ext hEd24
            replace hff := hff.ext hEd24
            replace hgg := hgg.ext hEd24
            replace hB5 := hB5.ext hEd24
            replace hB6 := hB6.ext hEd24
            replace hB7 := hB7.ext hEd24
            replace hB10 := hB10.ext hEd24
            replace hM := hM.ext hEd24
            replace hO := hO.ext hEd24
            replace hB16 := hB16.ext hEd24
            replace hN := hN.ext hEd24
            replace hB18 := hB18.ext hEd24
            replace hr81 := hr81.ext hEd24
            replace hO6 := hO6.ext hEd24
            replace hB21 := hB21.ext hEd24
            have hDd24 := (Rg.refl : Rg w19_3.heap.size wL6.heap.size 0 0 wd24 wd24)
            refine PW_q rfl rfl (fun wq hq => ev_move rfl) ?_
            refine PW_q rfl rfl (fun wq hq => ev_move rfl) ?_
            refine PW_q rfl rfl (fun wq hq => ev_fieldAddr fo61_0 rfl) ?_
            refine PW_q rfl rfl (fun wq hq => ev_load one3 rfl ((hB21.rg hq.1 (by omega)).cell rfl)) ?_
            refine PW_q rfl rfl (fun wq hq => ev_fieldAddr fo31_0 rfl) ?_
            refine PW_q rfl rfl (fun wq hq => ev_load one29 rfl ((hB6.rg hq.1 (by omega)).cell rfl)) ?_
            refine PW_q rfl rfl (fun wq hq => ev_fieldAddr fo70_1 rfl) ?_
            refine PW_q rfl rfl (fun wq hq => ev_load one3 rfl ((hB18.rg hq.1 (by omega)).cell rfl)) ?_
            have hl97 : w9 < B.ends.length := by omega
            have ht97 := totL_le hl97
            obtain ⟨a97, c97, hc97, hr97⟩ := hB.ends.row hl97
            refine PW_q rfl rfl (fun wq hq => ev_indexAddr Try.underlying29 sz56 rfl rfl (hB.ends.isSome (by omega)) (by omega) (by omega)) ?_
            refine PW_q rfl rfl (fun wq hq => ev_load one56 rfl (hq.1.cell' hc97 (by have := hB.ends.rng (Nat.lt_of_le_of_lt (Nat.zero_le _) hl97); omega))) ?_
            refine PW_q rfl rfl (fun wq hq => ev_move rfl) ?_
            refine PW_q rfl rfl (fun wq hq => ev_indexAddr Try.underlying56 sz61 rfl rfl (hr97.isSome (by omega)) (by omega) (by omega)) ?_
            refine PW_q rfl rfl (fun wq hq => ev_fieldAddr fo61_0 rfl) ?_
            refine PW_q rfl rfl (fun wq hq => ev_load one3 rfl (by simpa using (hr97.rg hq.1 (by omega)).fst (i := k) (by omega))) ?_
            refine PW_q rfl rfl (fun wq hq => ev_build2 sn70_2 rfl rfl rfl rfl) ?_
            refine PW_q rfl rfl (fun wq hq => ev_lookup1I (k := (A.ends[v9][k].1, B.ends[w9][k].1)) qlaw VPair_inj Try.underlying68 zr3 rfl rfl (hM.rg hq.1 (by omega)) (qgood (by constructor <;> (simp only []; omega)) (by constructor <;> (simp only []; omega)))) ?_
            rw [kvP_lookE he1 hf1 s91 s92 s93]
            refine PW_q rfl rfl (fun wq hq => ev_fieldAddr fo61_1 rfl) ?_
            refine PW_q rfl rfl (fun wq hq => ev_load one3 rfl ((hB21.rg hq.1 (by omega)).cell rfl)) ?_
            refine PW_q rfl rfl (fun wq hq => ev_build2 sn61_2 rfl rfl rfl rfl) ?_
            refine PW_m rfl rfl (ev_lit1 Try.underlying56 el61 (by decide) (by decide) rfl rfl) ?_
            rintro _ w108 ⟨rfl, hN108⟩
            have hz108 := hN108.size
            replace hE := hE.trans hN108.ext
            replace hRL4 := hRL4.trans hN108.ext
            replace hRL6 := hRL6.trans hN108.ext
            replace hDd24 := hDd24.trans hN108.ext
            replace hO6 := hO6.ext hN108.ext
            have hB108 := hN108.blk
            refine ⟨⟨hDd24, trivial⟩, ?_⟩
            have hA_20 := hA.rg hDd24 (by omega)
            have hB_20 := hB.rg hDd24 (by omega)
            have hD_20 := hD.rg hDd24 (by omega)
            have hff_20 := hff.rg hDd24 (by omega)
            have hgg_20 := hgg.rg hDd24 (by omega)
            have hB5_20 := hB5.rg hDd24 (by omega)
            have hB6_20 := hB6.rg hDd24 (by omega)
            have hB7_20 := hB7.rg hDd24 (by omega)
            have hB10_20 := hB10.rg hDd24 (by omega)
            have hM_20 := hM.rg hDd24 (by omega)
            have hO_20 := hO.rg hDd24 (by omega)
            have hB16_20 := hB16.rg hDd24 (by omega)
            have hN_20 := hN.rg hDd24 (by omega)
            have hB18_20 := hB18.rg hDd24 (by omega)
            have hr81_20 := hr81.rg hDd24 (by omega)
            have hB21_20 := hB21.rg hDd24 (by omega)
            have hr97_20 := hr97.rg hDd24 (by omega)
            refine PW_m rfl rfl (ev_appendT Try.underlying56 el61 rfl (by decide) rfl rfl hO6 (SAt.of_blk (cs := [_, _]) (ds := []) hB108) rfl (by simp [Value.oneCell']) (by omega) (by unfold maxLen; omega) (by omega)) ?_
            rintro _ w109 ⟨a109, c109, rfl, hO109, hK109, hQ109⟩
            have hz109 := hK109.size
            replace hE := hE.rg hK109 (by omega)
            replace hRL4 := hRL4.rg hK109 (by omega)
            replace hRL6 := hRL6.rg hK109 (by omega)
            replace hDd24 := hDd24.rg hK109 (by omega)
            replace hB108 := hB108.rg hK109 (by omega)
            replace hO6 := hO109
            replace hO6 := ownt_snocP hO6
            refine ⟨⟨hDd24, trivial⟩, ?_⟩
            refine PW_q rfl rfl (fun wq hq => ev_assign rfl) ?_
            replace hA := hA.rg hDd24 (by omega)
            replace hB := hB.rg hDd24 (by omega)
            replace hD := hD.rg hDd24 (by omega)
            replace hff := hff.rg hDd24 (by omega)
            replace hgg := hgg.rg hDd24 (by omega)
            replace hB5 := hB5.rg hDd24 (by omega)
            replace hB6 := hB6.rg hDd24 (by omega)
            replace hB7 := hB7.rg hDd24 (by omega)
            replace hB10 := hB10.rg hDd24 (by omega)
            replace hM := hM.rg hDd24 (by omega)
            replace hO := hO.rg hDd24 (by omega)
            replace hB16 := hB16.rg hDd24 (by omega)
            replace hN := hN.rg hDd24 (by omega)
            replace hB18 := hB18.rg hDd24 (by omega)
            replace hr81 := hr81.rg hDd24 (by omega)
            replace hB21 := hB21.rg hDd24 (by omega)
            replace hr97 := hr97.rg hDd24 (by omega)
            refine PW_nil ?_
            refine blockE_n ?_
            refine thenE_n ?_
            refine W_region ?_
            refine WL_q rfl (ev_add rfl rfl (by omega)) ?_
            refine WL_q rfl (ev_move rfl) ?_
            refine WL_nil ?_
            refine thenE_n ?_
            have hps := prow_snoc hH hv9 hw9 hlk9 hlkB (e := ((num ff gg B.ends.length A.ends[v9][k].1.toNat B.ends[w9][k].1.toNat : Int), A.ends[v9][k].2)) rfl
            exact ⟨(k + 1, a109, c109), (Subs.c rfl (Subs.c rfl (Subs.c rfl (Subs.c rfl (Subs.c rfl (Subs.c rfl (Subs.c rfl (Subs.c rfl (Subs.c rfl (Subs.c rfl (Subs.c rfl Subs.n))))))))))), (Subs.c (lkS rfl (by rw [← hps]; simp)) (Subs.c (lkI rfl (by omega)) Subs.n)), ⟨hRL6, ⟨by omega, by rw [← hps]; exact (ownt_toP hO6 rfl (by simp)).up (Nat.le_refl _) (by omega)⟩⟩, by first | omega | (dsimp only; omega)⟩
          · have hp85 := of_decide_eq_false hg85
            refine W_exit ?_
            refine thenE_x ?_
            refine thenE_x ?_
            refine blockE_hit ?_
            refine thenE_n ?_
            refine W_drawY (X := Option Addr × Nat × Option Addr × Nat × List (Option Addr × Nat)) (fun x => []) (fun x w' => Blk w' wL0.heap.size 31 [.slice x.1 (fbE A B ff gg (t + 1)).length x.2.1, .slice none 0 0, .slice x.2.2.1 (fbI A B ff gg (t + 1)).length x.2.2.2.1] ∧ NAcc w16.heap.size w'.heap.size w' 61 56 3 x.2.2.2.2 ⟨x.1, x.2.1, none, 0, x.2.2.1, x.2.2.2.1⟩ ⟨fbE A B ff gg (t + 1), [], fbI A B ff gg (t + 1)⟩ ∧ Lo wL0.heap.size w16 w' ∧ Ext w w') 16 w16.heap.size wL4.heap.size 0 0 wL0.heap.size wL4.heap.size 0 0 (.q 0 (.q 1 (.q 2 (.q 5 (.q 6 (.h 7 (.h 8 (.h 9 (.h 10 (.h 11 (.h 12 (.b 3 (.b 4 (.q 15 (.a 13 (.a 14 (.z 16 (.h 17 (.a 18 .done)))))) 13 (.a 4 (.q 15 (.a 14 (.z 16 (.h 17 (.a 18 .done))))))) 13 (.a 3 (.a 4 (.q 15 (.a 14 (.z 16 (.h 17 (.a 18 .done))))))))))))))))))) mixed (by kernel_rfl) rfl (by kernel_rfl) ?_ ?_
            · intro wd26 hEd26 hzd26
              replace hE := hE.trans hEd26
              replace hRL4 := hRL4.trans hEd26
              replace hA := hA.ext hEd26
              replace hB := hB.ext hEd26
              replace hD := hD.ext hEd26
              replace hff := hff.ext hEd26
              replace hgg := hgg.ext hEd26
              replace hB5 := hB5.ext hEd26
              replace hB6 := hB6.ext hEd26
              replace hB7 := hB7.ext hEd26
              replace hB10 := hB10.ext hEd26
              replace hM := hM.ext hEd26
              replace hO := hO.ext hEd26
              replace hB16 := hB16.ext hEd26
              replace hN := hN.ext hEd26
              replace hB18 := hB18.ext hEd26
              replace hr81 := hr81.ext hEd26
              replace hO6 := hO6.ext hEd26
              have hSd26 := (Rg.refl : Rg w16.heap.size wL4.heap.size 0 0 wd26 wd26)
              have hUd26 := (Rg.refl : Rg wL0.heap.size wL4.heap.size 0 0 wd26 wd26)
              refine PY_q rfl rfl (fun wq hq => ev_fieldAddr fo31_0 rfl) ?_
              refine PY_q rfl rfl (fun wq hq => ev_load one29 rfl ((hB16.rg hq.1 (by omega)).cell rfl)) ?_
              refine PY_q rfl rfl (fun wq hq => ev_move rfl) ?_
              refine PY_q rfl rfl (fun wq hq => ev_fieldAddr fo31_2 rfl) ?_
              refine PY_q rfl rfl (fun wq hq => ev_load one23 rfl ((hB16.rg hq.1 (by omega)).cell rfl)) ?_
              refine PY_h rfl rfl (fun wq hq => ev_fieldAddr fo31_2 rfl) ?_
              refine PY_h rfl rfl (fun wq hq => ev_load one23 rfl ((hB5.rg hq.1 (by omega)).cell rfl)) ?_
              refine PY_h rfl rfl (fun wq hq => ev_fieldAddr fo70_0 rfl) ?_
              refine PY_h rfl rfl (fun wq hq => ev_load one3 rfl ((hB18.rg hq.1 (by omega)).cell rfl)) ?_
              refine PY_h rfl rfl (fun wq hq => ev_indexAddr Try.underlying23 sz3 rfl rfl (hA.inputs.isSome (by omega)) (by omega) (by omega)) ?_
              refine PY_h rfl rfl (fun wq hq => ev_load one3 rfl ((hA.inputs.rg hq.1 (by omega)).cellJ (i := v9) (j := Int.toNat ((v9 : Nat) : Int)) (by omega) (by omega))) ?_
              refine PY_b ?_ ?_
              · refine PB_m w16.heap.size wL4.heap.size 0 0 wL0.heap.size wL4.heap.size 0 0 rfl rfl (ev_lit1 Try.underlying29 el56 (by decide) (by decide) rfl rfl) ?_
                rintro _ w114 ⟨rfl, hN114⟩
                have hz114 := hN114.size
                replace hE := hE.trans hN114.ext
                replace hRL4 := hRL4.trans hN114.ext
                replace hSd26 := hSd26.trans hN114.ext
                replace hUd26 := hUd26.trans hN114.ext
                replace hA := hA.ext hN114.ext
                replace hB := hB.ext hN114.ext
                replace hD := hD.ext hN114.ext
                replace hff := hff.ext hN114.ext
                replace hgg := hgg.ext hN114.ext
                replace hB5 := hB5.ext hN114.ext
                replace hB6 := hB6.ext hN114.ext
                replace hB7 := hB7.ext hN114.ext
                replace hB10 := hB10.ext hN114.ext
                replace hM := hM.ext hN114.ext
                replace hO := hO.ext hN114.ext
                replace hB16 := hB16.ext hN114.ext
                replace hN := hN.ext hN114.ext
                replace hB18 := hB18.ext hN114.ext
                replace hr81 := hr81.ext hN114.ext
                replace hO6 := hO6.ext hN114.ext
                have hB114 := hN114.blk
                refine ⟨fun _ hx => ⟨hSd26.rg hx (by omega), trivial⟩, fun _ hx => ⟨hUd26.rg hx (by omega), trivial⟩, ?_⟩
                have hSd26 := (Rg.refl : Rg w16.heap.size wL4.heap.size 0 0 w114 w114)
                have hUd26 := (Rg.refl : Rg wL0.heap.size wL4.heap.size 0 0 w114 w114)
                refine PY_b ?_ ?_
                · have hP115 := hN.rows.out
                  have hJ9 := hN.inp.2
                  have hk9 : k = (prow A B ff gg ((v9 : Int), (w9 : Int))).length := by rw [prow_len rfl hv9]; omega
                  refine PB_m w16.heap.size wL4.heap.size 0 0 wL0.heap.size wL4.heap.size 0 0 rfl rfl (ev_append Try.underlying29 el56 rfl (by decide) rfl rfl hP115 (SAt.of_blk (cs := [_]) (ds := []) hB114) rfl (by simp [Value.oneCell']) (by omega) (by unfold maxLen; omega) (by omega)) ?_
                  rintro _ w115 ⟨a115, c115, rfl, hO115, hK115, hQ115⟩
                  have hz115 := hK115.size
                  replace hE := hE.app hK115 (fun q hq => by have h1 := (hP115.block q hq).1; have h2 := hN.rows.otop q hq; omega)
                  replace hRL4 := hRL4.app hK115 (fun q hq => by have h1 := (hP115.block q hq).1; have h2 := hN.rows.otop q hq; omega)
                  replace hSd26 := hSd26.app hK115 (fun q hq => by have h1 := (hP115.block q hq).1; have h2 := hN.rows.otop q hq; omega)
                  replace hUd26 := hUd26.app hK115 (fun q hq => by have h1 := (hP115.block q hq).1; have h2 := hN.rows.otop q hq; omega)
                  replace hA := hA.app hK115 (hP115) (by omega)
                  replace hB := hB.app hK115 (hP115) (by omega)
                  replace hD := hD.app hK115 (hP115) (by omega)
                  replace hff := hff.app hK115 (hP115) (by omega)
                  replace hgg := hgg.app hK115 (hP115) (by omega)
                  replace hB5 := hB5.app hK115 (hP115) (by omega)
                  replace hB6 := hB6.app hK115 (hP115) (by omega)
                  replace hB7 := hB7.app hK115 (hP115) (by omega)
                  replace hB10 := hB10.app hK115 (hP115) (by omega)
                  replace hB16 := hB16.app hK115 (hP115) (by omega)
                  replace hr81 := hr81.app hK115 (hP115) (by omega)
                  have hP115 := hO115
                  try replace hB124 := hB124.keep hK115 ⟨hB124.lt, fun q hq => by have := hN.rows.otop q hq; omega⟩
                  rw [hk9, List.take_length] at hO6 hO115
                  replace hN := (hN.snocRow (hO6.1.mono (by omega)) (fun q hq => by have := (hO6.1.block q hq).1; omega) hK115 hO115 rfl hQ115 (by omega)).to (show _ = (⟨fbE A B ff gg (t + 1), [], fbI A B ff gg t⟩ : Net) by rw [← fbE_snoc hltt (by rw [e91])])
                  refine ⟨fun _ hx => ⟨hSd26.rg hx (by omega), trivial⟩, fun _ hx => ⟨hUd26.rg hx (by omega), trivial⟩, ?_⟩
                  have hSd26 := (Rg.refl : Rg w16.heap.size wL4.heap.size 0 0 w115 w115)
                  have hUd26 := (Rg.refl : Rg wL0.heap.size wL4.heap.size 0 0 w115 w115)
                  refine PY_q rfl rfl (fun wq hq => ev_fieldAddr fo31_0 rfl) ?_
                  refine PY_a ?_
                  refine PB_m w16.heap.size wL4.heap.size 0 0 wL0.heap.size wL4.heap.size 0 0 rfl rfl (ev_lit1 Try.underlying23 el3 (by decide) (by decide) rfl rfl) ?_
                  rintro _ w124 ⟨rfl, hN124⟩
                  have hz124 := hN124.size
                  replace hE := hE.trans hN124.ext
                  replace hRL4 := hRL4.trans hN124.ext
                  replace hSd26 := hSd26.trans hN124.ext
                  replace hUd26 := hUd26.trans hN124.ext
                  replace hA := hA.ext hN124.ext
                  replace hB := hB.ext hN124.ext
                  replace hD := hD.ext hN124.ext
                  replace hff := hff.ext hN124.ext
                  replace hgg := hgg.ext hN124.ext
                  replace hB5 := hB5.ext hN124.ext
                  replace hB6 := hB6.ext hN124.ext
                  replace hB7 := hB7.ext hN124.ext
                  replace hB10 := hB10.ext hN124.ext
                  replace hB16 := hB16.ext hN124.ext
                  replace hr81 := hr81.ext hN124.ext
                  replace hN := hN.ext hN124.ext
                  have hB124 := hN124.blk
                  refine ⟨fun _ hx => ⟨hSd26.rg hx (by omega), trivial⟩, fun _ hx => ⟨hUd26.rg hx (by omega), trivial⟩, ?_⟩
                  have hSd26 := (Rg.refl : Rg w16.heap.size wL4.heap.size 0 0 w124 w124)
                  have hUd26 := (Rg.refl : Rg wL0.heap.size wL4.heap.size 0 0 w124 w124)
                  refine PY_a ?_
                  have hP125 := hN.inp.1
                  refine PB_m w16.heap.size wL4.heap.size 0 0 wL0.heap.size wL4.heap.size 0 0 rfl rfl (ev_append Try.underlying23 el3 rfl (by decide) rfl rfl hP125 (SAt.of_blk (cs := [_]) (ds := []) hB124) rfl (by simp [Value.oneCell']) (by omega) (by unfold maxLen; omega) (by omega)) ?_
                  rintro _ w125 ⟨a125, c125, rfl, hO125, hK125, hQ125⟩
                  have hz125 := hK125.size
                  replace hE := hE.app hK125 (fun q hq => by have h1 := (hP125.block q hq).1; have h2 := (hJ9 q hq).1; omega)
                  replace hRL4 := hRL4.app hK125 (fun q hq => by have h1 := (hP125.block q hq).1; have h2 := (hJ9 q hq).1; omega)
                  replace hSd26 := hSd26.app hK125 (fun q hq => by have h1 := (hP125.block q hq).1; have h2 := (hJ9 q hq).1; omega)
                  replace hUd26 := hUd26.app hK125 (fun q hq => by have h1 := (hP125.block q hq).1; have h2 := (hJ9 q hq).1; omega)
                  replace hA := hA.app hK125 (hP125) (by omega)
                  replace hB := hB.app hK125 (hP125) (by omega)
                  replace hD := hD.app hK125 (hP125) (by omega)
                  replace hff := hff.app hK125 (hP125) (by omega)
                  replace hgg := hgg.app hK125 (hP125) (by omega)
                  replace hB5 := hB5.app hK125 (hP125) (by omega)
                  replace hB6 := hB6.app hK125 (hP125) (by omega)
                  replace hB7 := hB7.app hK125 (hP125) (by omega)
                  replace hB10 := hB10.app hK125 (hP125) (by omega)
                  replace hB16 := hB16.app hK125 (hP125) (by omega)
                  replace hr81 := hr81.app hK125 (hP125) (by omega)
                  have hP125 := hO125
                  replace hN := (hN.snocInp hK125 hO125 rfl hQ125 (by omega)).to (show _ = (⟨fbE A B ff gg (t + 1), [], fbI A B ff gg (t + 1)⟩ : Net) by rw [← fbI_snoc (x := A.inputs[v9]'(by omega)) hltt (by rw [e91]; simp only [Int.toNat_natCast]; rw [getD_eq])])
                  refine ⟨fun _ hx => ⟨hSd26.rg hx (by omega), trivial⟩, fun _ hx => ⟨hUd26.rg hx (by omega), trivial⟩, ?_⟩
                  have hSd26 := (Rg.refl : Rg w16.heap.size wL4.heap.size 0 0 w125 w125)
                  have hUd26 := (Rg.refl : Rg wL0.heap.size wL4.heap.size 0 0 w125 w125)
                  refine PY_z ?_
                  refine PB_s wL0.heap.size wL4.heap.size 0 0 wL0.heap.size wL4.heap.size 0 0 rfl (ev_store sz29 rfl rfl rfl hB16 (by simp)) ?_
                  rintro _ w26_16 hS26_16
                  have hz26_16 := hS26_16.size
                  replace hE := hE.sto hS26_16 (by omega)
                  replace hRL4 := hRL4.sto hS26_16 (by omega)
                  replace hUd26 := hUd26.sto hS26_16 (by omega)
                  replace hA := hA.sto hS26_16 (by omega)
                  replace hB := hB.sto hS26_16 (by omega)
                  replace hD := hD.sto hS26_16 (by omega)
                  replace hff := hff.sto hS26_16 (by omega)
                  replace hgg := hgg.sto hS26_16 (by omega)
                  replace hB5 := hB5.sto hS26_16 (by omega)
                  replace hB6 := hB6.sto hS26_16 (by omega)
                  replace hB7 := hB7.sto hS26_16 (by omega)
                  replace hB10 := hB10.sto hS26_16 (by omega)
                  replace hr81 := hr81.sto hS26_16 (by omega)
                  replace hN := hN.sto hS26_16 (by omega)
                  replace hB16 : Blk w26_16 _ _ [_, _, _] := hS26_16.blk
                  refine ⟨fun _ _ => trivial, fun _ hx => ⟨hUd26.rg hx (by omega), trivial⟩, ?_⟩
                  have hSd26 := (Rg.refl : Rg wL0.heap.size wL4.heap.size 0 0 w26_16 w26_16)
                  have hUd26 := (Rg.refl : Rg wL0.heap.size wL4.heap.size 0 0 w26_16 w26_16)
                  refine PY_h rfl rfl (fun wq hq => ev_fieldAddr fo31_2 rfl) ?_
                  refine PY_a ?_
                  refine PB_s wL0.heap.size wL4.heap.size 0 0 wL0.heap.size wL4.heap.size 0 0 rfl (ev_store sz23 rfl rfl rfl hB16 (by simp)) ?_
                  rintro _ w26_18 hS26_18
                  have hz26_18 := hS26_18.size
                  replace hE := hE.sto hS26_18 (by omega)
                  replace hRL4 := hRL4.sto hS26_18 (by omega)
                  replace hUd26 := hUd26.sto hS26_18 (by omega)
                  replace hSd26 := hSd26.sto hS26_18 (by omega)
                  replace hA := hA.sto hS26_18 (by omega)
                  replace hB := hB.sto hS26_18 (by omega)
                  replace hD := hD.sto hS26_18 (by omega)
                  replace hff := hff.sto hS26_18 (by omega)
                  replace hgg := hgg.sto hS26_18 (by omega)
                  replace hB5 := hB5.sto hS26_18 (by omega)
                  replace hB6 := hB6.sto hS26_18 (by omega)
                  replace hB7 := hB7.sto hS26_18 (by omega)
                  replace hB10 := hB10.sto hS26_18 (by omega)
                  replace hr81 := hr81.sto hS26_18 (by omega)
                  replace hN := hN.sto hS26_18 (by omega)
                  replace hB16 : Blk w26_18 _ _ [_, _, _] := hS26_18.blk
                  rw [show (fbE A B ff gg t).length + 1 = (fbE A B ff gg (t + 1)).length by rw [hfe, hfe2], show (fbI A B ff gg t).length + 1 = (fbI A B ff gg (t + 1)).length by rw [hfi, hfi2]] at hB16
                  refine ⟨fun _ hx => ⟨hSd26.rg hx (by omega), trivial⟩, fun _ hx => ⟨hUd26.rg hx (by omega), trivial⟩, ?_⟩
                  have hSd26 := (Rg.refl : Rg wL0.heap.size wL4.heap.size 0 0 w26_18 w26_18)
                  have hUd26 := (Rg.refl : Rg wL0.heap.size wL4.heap.size 0 0 w26_18 w26_18)
                  exact PY_nil 17 (a115, c115, a125, c125, vs ++ [(a6, c6)]) rfl trivial rfl ⟨hB16, hN.up (by omega), hRL4, hE⟩
                · refine PB_m w16.heap.size wL4.heap.size 0 0 wL0.heap.size wL4.heap.size 0 0 rfl rfl (ev_lit1 Try.underlying23 el3 (by decide) (by decide) rfl rfl) ?_
                  rintro _ w124 ⟨rfl, hN124⟩
                  have hz124 := hN124.size
                  replace hE := hE.trans hN124.ext
                  replace hRL4 := hRL4.trans hN124.ext
                  replace hSd26 := hSd26.trans hN124.ext
                  replace hUd26 := hUd26.trans hN124.ext
                  replace hA := hA.ext hN124.ext
                  replace hB := hB.ext hN124.ext
                  replace hD := hD.ext hN124.ext
                  replace hff := hff.ext hN124.ext
                  replace hgg := hgg.ext hN124.ext
                  replace hB5 := hB5.ext hN124.ext
                  replace hB6 := hB6.ext hN124.ext
                  replace hB7 := hB7.ext hN124.ext
                  replace hB10 := hB10.ext hN124.ext
                  replace hM := hM.ext hN124.ext
                  replace hO := hO.ext hN124.ext
                  replace hB16 := hB16.ext hN124.ext
                  replace hN := hN.ext hN124.ext
                  replace hB18 := hB18.ext hN124.ext
                  replace hr81 := hr81.ext hN124.ext
                  replace hO6 := hO6.ext hN124.ext
                  replace hB114 := hB114.ext hN124.ext
                  have hB124 := hN124.blk
                  refine ⟨fun _ hx => ⟨hSd26.rg hx (by omega), trivial⟩, fun _ hx => ⟨hUd26.rg hx (by omega), trivial⟩, ?_⟩
                  have hSd26 := (Rg.refl : Rg w16.heap.size wL4.heap.size 0 0 w124 w124)
                  have hUd26 := (Rg.refl : Rg wL0.heap.size wL4.heap.size 0 0 w124 w124)
                  refine PY_a ?_
                  have hP115 := hN.rows.out
                  have hJ9 := hN.inp.2
                  have hk9 : k = (prow A B ff gg ((v9 : Int), (w9 : Int))).length := by rw [prow_len rfl hv9]; omega
                  refine PB_m w16.heap.size wL4.heap.size 0 0 wL0.heap.size wL4.heap.size 0 0 rfl rfl (ev_append Try.underlying29 el56 rfl (by decide) rfl rfl hP115 (SAt.of_blk (cs := [_]) (ds := []) hB114) rfl (by simp [Value.oneCell']) (by omega) (by unfold maxLen; omega) (by omega)) ?_
                  rintro _ w115 ⟨a115, c115, rfl, hO115, hK115, hQ115⟩
                  have hz115 := hK115.size
                  replace hE := hE.app hK115 (fun q hq => by have h1 := (hP115.block q hq).1; have h2 := hN.rows.otop q hq; omega)
                  replace hRL4 := hRL4.app hK115 (fun q hq => by have h1 := (hP115.block q hq).1; have h2 := hN.rows.otop q hq; omega)
                  replace hSd26 := hSd26.app hK115 (fun q hq => by have h1 := (hP115.block q hq).1; have h2 := hN.rows.otop q hq; omega)
                  replace hUd26 := hUd26.app hK115 (fun q hq => by have h1 := (hP115.block q hq).1; have h2 := hN.rows.otop q hq; omega)
                  replace hA := hA.app hK115 (hP115) (by omega)
                  replace hB := hB.app hK115 (hP115) (by omega)
                  replace hD := hD.app hK115 (hP115) (by omega)
                  replace hff := hff.app hK115 (hP115) (by omega)
                  replace hgg := hgg.app hK115 (hP115) (by omega)
                  replace hB5 := hB5.app hK115 (hP115) (by omega)
                  replace hB6 := hB6.app hK115 (hP115) (by omega)
                  replace hB7 := hB7.app hK115 (hP115) (by omega)
                  replace hB10 := hB10.app hK115 (hP115) (by omega)
                  replace hB16 := hB16.app hK115 (hP115) (by omega)
                  replace hr81 := hr81.app hK115 (hP115) (by omega)
                  have hP115 := hO115
                  try replace hB124 := hB124.keep hK115 ⟨hB124.lt, fun q hq => by have := hN.rows.otop q hq; omega⟩
                  rw [hk9, List.take_length] at hO6 hO115
                  replace hN := (hN.snocRow (hO6.1.mono (by omega)) (fun q hq => by have := (hO6.1.block q hq).1; omega) hK115 hO115 rfl hQ115 (by omega)).to (show _ = (⟨fbE A B ff gg (t + 1), [], fbI A B ff gg t⟩ : Net) by rw [← fbE_snoc hltt (by rw [e91])])
                  refine ⟨fun _ hx => ⟨hSd26.rg hx (by omega), trivial⟩, fun _ hx => ⟨hUd26.rg hx (by omega), trivial⟩, ?_⟩
                  have hSd26 := (Rg.refl : Rg w16.heap.size wL4.heap.size 0 0 w115 w115)
                  have hUd26 := (Rg.refl : Rg wL0.heap.size wL4.heap.size 0 0 w115 w115)
                  refine PY_q rfl rfl (fun wq hq => ev_fieldAddr fo31_0 rfl) ?_
                  refine PY_a ?_
                  have hP125 := hN.inp.1
                  refine PB_m w16.heap.size wL4.heap.size 0 0 wL0.heap.size wL4.heap.size 0 0 rfl rfl (ev_append Try.underlying23 el3 rfl (by decide) rfl rfl hP125 (SAt.of_blk (cs := [_]) (ds := []) hB124) rfl (by simp [Value.oneCell']) (by omega) (by unfold maxLen; omega) (by omega)) ?_
                  rintro _ w125 ⟨a125, c125, rfl, hO125, hK125, hQ125⟩
                  have hz125 := hK125.size
                  replace hE := hE.app hK125 (fun q hq => by have h1 := (hP125.block q hq).1; have h2 := (hJ9 q hq).1; omega)
                  replace hRL4 := hRL4.app hK125 (fun q hq => by have h1 := (hP125.block q hq).1; have h2 := (hJ9 q hq).1; omega)
                  replace hSd26 := hSd26.app hK125 (fun q hq => by have h1 := (hP125.block q hq).1; have h2 := (hJ9 q hq).1; omega)
                  replace hUd26 := hUd26.app hK125 (fun q hq => by have h1 := (hP125.block q hq).1; have h2 := (hJ9 q hq).1; omega)
                  replace hA := hA.app hK125 (hP125) (by omega)
                  replace hB := hB.app hK125 (hP125) (by omega)
                  replace hD := hD.app hK125 (hP125) (by omega)
                  replace hff := hff.app hK125 (hP125) (by omega)
                  replace hgg := hgg.app hK125 (hP125) (by omega)
                  replace hB5 := hB5.app hK125 (hP125) (by omega)
                  replace hB6 := hB6.app hK125 (hP125) (by omega)
                  replace hB7 := hB7.app hK125 (hP125) (by omega)
                  replace hB10 := hB10.app hK125 (hP125) (by omega)
                  replace hB16 := hB16.app hK125 (hP125) (by omega)
                  replace hr81 := hr81.app hK125 (hP125) (by omega)
                  have hP125 := hO125
                  replace hN := (hN.snocInp hK125 hO125 rfl hQ125 (by omega)).to (show _ = (⟨fbE A B ff gg (t + 1), [], fbI A B ff gg (t + 1)⟩ : Net) by rw [← fbI_snoc (x := A.inputs[v9]'(by omega)) hltt (by rw [e91]; simp only [Int.toNat_natCast]; rw [getD_eq])])
                  refine ⟨fun _ hx => ⟨hSd26.rg hx (by omega), trivial⟩, fun _ hx => ⟨hUd26.rg hx (by omega), trivial⟩, ?_⟩
                  have hSd26 := (Rg.refl : Rg w16.heap.size wL4.heap.size 0 0 w125 w125)
                  have hUd26 := (Rg.refl : Rg wL0.heap.size wL4.heap.size 0 0 w125 w125)
                  refine PY_z ?_
                  refine PB_s wL0.heap.size wL4.heap.size 0 0 wL0.heap.size wL4.heap.size 0 0 rfl (ev_store sz29 rfl rfl rfl hB16 (by simp)) ?_
                  rintro _ w26_16 hS26_16
                  have hz26_16 := hS26_16.size
                  replace hE := hE.sto hS26_16 (by omega)
                  replace hRL4 := hRL4.sto hS26_16 (by omega)
                  replace hUd26 := hUd26.sto hS26_16 (by omega)
                  replace hA := hA.sto hS26_16 (by omega)
                  replace hB := hB.sto hS26_16 (by omega)
                  replace hD := hD.sto hS26_16 (by omega)
                  replace hff := hff.sto hS26_16 (by omega)
                  replace hgg := hgg.sto hS26_16 (by omega)
                  replace hB5 := hB5.sto hS26_16 (by omega)
                  replace hB6 := hB6.sto hS26_16 (by omega)
                  replace hB7 := hB7.sto hS26_16 (by omega)
                  replace hB10 := hB10.sto hS26_16 (by omega)
                  replace hr81 := hr81.sto hS26_16 (by omega)
                  replace hN := hN.sto hS26_16 (by omega)
                  replace hB16 : Blk w26_16 _ _ [_, _, _] := hS26_16.blk
                  refine ⟨fun _ _ => trivial, fun _ hx => ⟨hUd26.rg hx (by omega), trivial⟩, ?_⟩
                  have hSd26 := (Rg.refl : Rg wL0.heap.size wL4.heap.size 0 0 w26_16 w26_16)
                  have hUd26 := (Rg.refl : Rg wL0.heap.size wL4.heap.size 0 0 w26_16 w26_16)
                  refine PY_h rfl rfl (fun wq hq => ev_fieldAddr fo31_2 rfl) ?_
                  refine PY_a ?_
                  refine PB_s wL0.heap.size wL4.heap.size 0 0 wL0.heap.size wL4.heap.size 0 0 rfl (ev_store sz23 rfl rfl rfl hB16 (by simp)) ?_
                  rintro _ w26_18 hS26_18
                  have hz26_18 := hS26_18.size
                  replace hE := hE.sto hS26_18 (by omega)
                  replace hRL4 := hRL4.sto hS26_18 (by omega)
                  replace hUd26 := hUd26.sto hS26_18 (by omega)
                  replace hSd26 := hSd26.sto hS26_18 (by omega)
                  replace hA := hA.sto hS26_18 (by omega)
                  replace hB := hB.sto hS26_18 (by omega)
                  replace hD := hD.sto hS26_18 (by omega)
                  replace hff := hff.sto hS26_18 (by omega)
                  replace hgg := hgg.sto hS26_18 (by omega)
                  replace hB5 := hB5.sto hS26_18 (by omega)
                  replace hB6 := hB6.sto hS26_18 (by omega)
                  replace hB7 := hB7.sto hS26_18 (by omega)
                  replace hB10 := hB10.sto hS26_18 (by omega)
                  replace hr81 := hr81.sto hS26_18 (by omega)
                  replace hN := hN.sto hS26_18 (by omega)
                  replace hB16 : Blk w26_18 _ _ [_, _, _] := hS26_18.blk
                  rw [show (fbE A B ff gg t).length + 1 = (fbE A B ff gg (t + 1)).length by rw [hfe, hfe2], show (fbI A B ff gg t).length + 1 = (fbI A B ff gg (t + 1)).length by rw [hfi, hfi2]] at hB16
                  refine ⟨fun _ hx => ⟨hSd26.rg hx (by omega), trivial⟩, fun _ hx => ⟨hUd26.rg hx (by omega), trivial⟩, ?_⟩
                  have hSd26 := (Rg.refl : Rg wL0.heap.size wL4.heap.size 0 0 w26_18 w26_18)
                  have hUd26 := (Rg.refl : Rg wL0.heap.size wL4.heap.size 0 0 w26_18 w26_18)
                  exact PY_nil 17 (a115, c115, a125, c125, vs ++ [(a6, c6)]) rfl trivial rfl ⟨hB16, hN.up (by omega), hRL4, hE⟩
              · refine PB_m w16.heap.size wL4.heap.size 0 0 wL0.heap.size wL4.heap.size 0 0 rfl rfl (ev_lit1 Try.underlying23 el3 (by decide) (by decide) rfl rfl) ?_
                rintro _ w124 ⟨rfl, hN124⟩
                have hz124 := hN124.size
                replace hE := hE.trans hN124.ext
                replace hRL4 := hRL4.trans hN124.ext
                replace hSd26 := hSd26.trans hN124.ext
                replace hUd26 := hUd26.trans hN124.ext
                replace hA := hA.ext hN124.ext
                replace hB := hB.ext hN124.ext
                replace hD := hD.ext hN124.ext
                replace hff := hff.ext hN124.ext
                replace hgg := hgg.ext hN124.ext
                replace hB5 := hB5.ext hN124.ext
                replace hB6 := hB6.ext hN124.ext
                replace hB7 := hB7.ext hN124.ext
                replace hB10 := hB10.ext hN124.ext
                replace hM := hM.ext hN124.ext
                replace hO := hO.ext hN124.ext
                replace hB16 := hB16.ext hN124.ext
                replace hN := hN.ext hN124.ext
                replace hB18 := hB18.ext hN124.ext
                replace hr81 := hr81.ext hN124.ext
                replace hO6 := hO6.ext hN124.ext
                have hB124 := hN124.blk
                refine ⟨fun _ hx => ⟨hSd26.rg hx (by omega), trivial⟩, fun _ hx => ⟨hUd26.rg hx (by omega), trivial⟩, ?_⟩
                have hSd26 := (Rg.refl : Rg w16.heap.size wL4.heap.size 0 0 w124 w124)
                have hUd26 := (Rg.refl : Rg wL0.heap.size wL4.heap.size 0 0 w124 w124)
                refine PY_a ?_
                refine PB_m w16.heap.size wL4.heap.size 0 0 wL0.heap.size wL4.heap.size 0 0 rfl rfl (ev_lit1 Try.underlying29 el56 (by decide) (by decide) rfl rfl) ?_
                rintro _ w114 ⟨rfl, hN114⟩
                have hz114 := hN114.size
                replace hE := hE.trans hN114.ext
                replace hRL4 := hRL4.trans hN114.ext
                replace hSd26 := hSd26.trans hN114.ext
                replace hUd26 := hUd26.trans hN114.ext
                replace hA := hA.ext hN114.ext
                replace hB := hB.ext hN114.ext
                replace hD := hD.ext hN114.ext
                replace hff := hff.ext hN114.ext
                replace hgg := hgg.ext hN114.ext
                replace hB5 := hB5.ext hN114.ext
                replace hB6 := hB6.ext hN114.ext
                replace hB7 := hB7.ext hN114.ext
                replace hB10 := hB10.ext hN114.ext
                replace hM := hM.ext hN114.ext
                replace hO := hO.ext hN114.ext
                replace hB16 := hB16.ext hN114.ext
                replace hN := hN.ext hN114.ext
                replace hB18 := hB18.ext hN114.ext
                replace hr81 := hr81.ext hN114.ext
                replace hO6 := hO6.ext hN114.ext
                replace hB124 := hB124.ext hN114.ext
                have hB114 := hN114.blk
                refine ⟨fun _ hx => ⟨hSd26.rg hx (by omega), trivial⟩, fun _ hx => ⟨hUd26.rg hx (by omega), trivial⟩, ?_⟩
                have hSd26 := (Rg.refl : Rg w16.heap.size wL4.heap.size 0 0 w114 w114)
                have hUd26 := (Rg.refl : Rg wL0.heap.size wL4.heap.size 0 0 w114 w114)
                refine PY_a ?_
                have hP115 := hN.rows.out
                have hJ9 := hN.inp.2
                have hk9 : k = (prow A B ff gg ((v9 : Int), (w9 : Int))).length := by rw [prow_len rfl hv9]; omega
                refine PB_m w16.heap.size wL4.heap.size 0 0 wL0.heap.size wL4.heap.size 0 0 rfl rfl (ev_append Try.underlying29 el56 rfl (by decide) rfl rfl hP115 (SAt.of_blk (cs := [_]) (ds := []) hB114) rfl (by simp [Value.oneCell']) (by omega) (by unfold maxLen; omega) (by omega)) ?_
                rintro _ w115 ⟨a115, c115, rfl, hO115, hK115, hQ115⟩
                have hz115 := hK115.size
                replace hE := hE.app hK115 (fun q hq => by have h1 := (hP115.block q hq).1; have h2 := hN.rows.otop q hq; omega)
                replace hRL4 := hRL4.app hK115 (fun q hq => by have h1 := (hP115.block q hq).1; have h2 := hN.rows.otop q hq; omega)
                replace hSd26 := hSd26.app hK115 (fun q hq => by have h1 := (hP115.block q hq).1; have h2 := hN.rows.otop q hq; omega)
                replace hUd26 := hUd26.app hK115 (fun q hq => by have h1 := (hP115.block q hq).1; have h2 := hN.rows.otop q hq; omega)
                replace hA := hA.app hK115 (hP115) (by omega)
                replace hB := hB.app hK115 (hP115) (by omega)
                replace hD := hD.app hK115 (hP115) (by omega)
                replace hff := hff.app hK115 (hP115) (by omega)
                replace hgg := hgg.app hK115 (hP115) (by omega)
                replace hB5 := hB5.app hK115 (hP115) (by omega)
                replace hB6 := hB6.app hK115 (hP115) (by omega)
                replace hB7 := hB7.app hK115 (hP115) (by omega)
                replace hB10 := hB10.app hK115 (hP115) (by omega)
                replace hB16 := hB16.app hK115 (hP115) (by omega)
                replace hr81 := hr81.app hK115 (hP115) (by omega)
                have hP115 := hO115
                try replace hB124 := hB124.keep hK115 ⟨hB124.lt, fun q hq => by have := hN.rows.otop q hq; omega⟩
                rw [hk9, List.take_length] at hO6 hO115
                replace hN := (hN.snocRow (hO6.1.mono (by omega)) (fun q hq => by have := (hO6.1.block q hq).1; omega) hK115 hO115 rfl hQ115 (by omega)).to (show _ = (⟨fbE A B ff gg (t + 1), [], fbI A B ff gg t⟩ : Net) by rw [← fbE_snoc hltt (by rw [e91])])
                refine ⟨fun _ hx => ⟨hSd26.rg hx (by omega), trivial⟩, fun _ hx => ⟨hUd26.rg hx (by omega), trivial⟩, ?_⟩
                have hSd26 := (Rg.refl : Rg w16.heap.size wL4.heap.size 0 0 w115 w115)
                have hUd26 := (Rg.refl : Rg wL0.heap.size wL4.heap.size 0 0 w115 w115)
                refine PY_q rfl rfl (fun wq hq => ev_fieldAddr fo31_0 rfl) ?_
                refine PY_a ?_
                have hP125 := hN.inp.1
                refine PB_m w16.heap.size wL4.heap.size 0 0 wL0.heap.size wL4.heap.size 0 0 rfl rfl (ev_append Try.underlying23 el3 rfl (by decide) rfl rfl hP125 (SAt.of_blk (cs := [_]) (ds := []) hB124) rfl (by simp [Value.oneCell']) (by omega) (by unfold maxLen; omega) (by omega)) ?_
                rintro _ w125 ⟨a125, c125, rfl, hO125, hK125, hQ125⟩
                have hz125 := hK125.size
                replace hE := hE.app hK125 (fun q hq => by have h1 := (hP125.block q hq).1; have h2 := (hJ9 q hq).1; omega)
                replace hRL4 := hRL4.app hK125 (fun q hq => by have h1 := (hP125.block q hq).1; have h2 := (hJ9 q hq).1; omega)
                replace hSd26 := hSd26.app hK125 (fun q hq => by have h1 := (hP125.block q hq).1; have h2 := (hJ9 q hq).1; omega)
                replace hUd26 := hUd26.app hK125 (fun q hq => by have h1 := (hP125.block q hq).1; have h2 := (hJ9 q hq).1; omega)
                replace hA := hA.app hK125 (hP125) (by omega)
                replace hB := hB.app hK125 (hP125) (by omega)
                replace hD := hD.app hK125 (hP125) (by omega)
                replace hff := hff.app hK125 (hP125) (by omega)
                replace hgg := hgg.app hK125 (hP125) (by omega)
                replace hB5 := hB5.app hK125 (hP125) (by omega)
                replace hB6 := hB6.app hK125 (hP125) (by omega)
                replace hB7 := hB7.app hK125 (hP125) (by omega)
                replace hB10 := hB10.app hK125 (hP125) (by omega)
                replace hB16 := hB16.app hK125 (hP125) (by omega)
                replace hr81 := hr81.app hK125 (hP125) (by omega)
                have hP125 := hO125
                replace hN := (hN.snocInp hK125 hO125 rfl hQ125 (by omega)).to (show _ = (⟨fbE A B ff gg (t + 1), [], fbI A B ff gg (t + 1)⟩ : Net) by rw [← fbI_snoc (x := A.inputs[v9]'(by omega)) hltt (by rw [e91]; simp only [Int.toNat_natCast]; rw [getD_eq])])
                refine ⟨fun _ hx => ⟨hSd26.rg hx (by omega), trivial⟩, fun _ hx => ⟨hUd26.rg hx (by omega), trivial⟩, ?_⟩
                have hSd26 := (Rg.refl : Rg w16.heap.size wL4.heap.size 0 0 w125 w125)
                have hUd26 := (Rg.refl : Rg wL0.heap.size wL4.heap.size 0 0 w125 w125)
                refine PY_z ?_
                refine PB_s wL0.heap.size wL4.heap.size 0 0 wL0.heap.size wL4.heap.size 0 0 rfl (ev_store sz29 rfl rfl rfl hB16 (by simp)) ?_
                rintro _ w26_16 hS26_16
                have hz26_16 := hS26_16.size
                replace hE := hE.sto hS26_16 (by omega)
                replace hRL4 := hRL4.sto hS26_16 (by omega)
                replace hUd26 := hUd26.sto hS26_16 (by omega)
                replace hA := hA.sto hS26_16 (by omega)
                replace hB := hB.sto hS26_16 (by omega)
                replace hD := hD.sto hS26_16 (by omega)
                replace hff := hff.sto hS26_16 (by omega)
                replace hgg := hgg.sto hS26_16 (by omega)
                replace hB5 := hB5.sto hS26_16 (by omega)
                replace hB6 := hB6.sto hS26_16 (by omega)
                replace hB7 := hB7.sto hS26_16 (by omega)
                replace hB10 := hB10.sto hS26_16 (by omega)
                replace hr81 := hr81.sto hS26_16 (by omega)
                replace hN := hN.sto hS26_16 (by omega)
                replace hB16 : Blk w26_16 _ _ [_, _, _] := hS26_16.blk
                refine ⟨fun _ _ => trivial, fun _ hx => ⟨hUd26.rg hx (by omega), trivial⟩, ?_⟩
                have hSd26 := (Rg.refl : Rg wL0.heap.size wL4.heap.size 0 0 w26_16 w26_16)
                have hUd26 := (Rg.refl : Rg wL0.heap.size wL4.heap.size 0 0 w26_16 w26_16)
                refine PY_h rfl rfl (fun wq hq => ev_fieldAddr fo31_2 rfl) ?_
                refine PY_a ?_
                refine PB_s wL0.heap.size wL4.heap.size 0 0 wL0.heap.size wL4.heap.size 0 0 rfl (ev_store sz23 rfl rfl rfl hB16 (by simp)) ?_
                rintro _ w26_18 hS26_18
                have hz26_18 := hS26_18.size
                replace hE := hE.sto hS26_18 (by omega)
                replace hRL4 := hRL4.sto hS26_18 (by omega)
                replace hUd26 := hUd26.sto hS26_18 (by omega)
                replace hSd26 := hSd26.sto hS26_18 (by omega)
                replace hA := hA.sto hS26_18 (by omega)
                replace hB := hB.sto hS26_18 (by omega)
                replace hD := hD.sto hS26_18 (by omega)
                replace hff := hff.sto hS26_18 (by omega)
                replace hgg := hgg.sto hS26_18 (by omega)
                replace hB5 := hB5.sto hS26_18 (by omega)
                replace hB6 := hB6.sto hS26_18 (by omega)
                replace hB7 := hB7.sto hS26_18 (by omega)
                replace hB10 := hB10.sto hS26_18 (by omega)
                replace hr81 := hr81.sto hS26_18 (by omega)
                replace hN := hN.sto hS26_18 (by omega)
                replace hB16 : Blk w26_18 _ _ [_, _, _] := hS26_18.blk
                rw [show (fbE A B ff gg t).length + 1 = (fbE A B ff gg (t + 1)).length by rw [hfe, hfe2], show (fbI A B ff gg t).length + 1 = (fbI A B ff gg (t + 1)).length by rw [hfi, hfi2]] at hB16
                refine ⟨fun _ hx => ⟨hSd26.rg hx (by omega), trivial⟩, fun _ hx => ⟨hUd26.rg hx (by omega), trivial⟩, ?_⟩
                have hSd26 := (Rg.refl : Rg wL0.heap.size wL4.heap.size 0 0 w26_18 w26_18)
                have hUd26 := (Rg.refl : Rg wL0.heap.size wL4.heap.size 0 0 w26_18 w26_18)
                exact PY_nil 17 (a115, c115, a125, c125, vs ++ [(a6, c6)]) rfl trivial rfl ⟨hB16, hN.up (by omega), hRL4, hE⟩
            rintro ⟨a115, c115, a125, c125, vs5⟩ wt26 ⟨hB16, hN, hRL4, hE⟩
            dsimp only [List.cons_append, List.nil_append]
            dsimp only at hB16 hN
            refine blockE_n ?_
            refine thenE_n ?_
            refine W_region ?_
            refine WL_q rfl (ev_add rfl rfl (by omega)) ?_
            refine WL_q rfl (ev_move rfl) ?_
            refine WL_nil ?_
            refine thenE_n ?_
            exact ⟨(t + 1, a115, c115, a125, c125, vs5), (Subs.c rfl (Subs.c rfl (Subs.c rfl (Subs.c rfl (Subs.c rfl (Subs.c rfl (Subs.c rfl Subs.n))))))), (Subs.c (lkI rfl (by omega)) Subs.n), ⟨hRL4, ⟨by omega, hB16, hN⟩⟩, by first | omega | (dsimp only; omega)⟩
        · have hp74 := of_decide_eq_false hg74
          refine W_exit ?_
          refine thenE_x ?_
          refine thenE_x ?_
          refine blockE_hit ?_
          refine thenE_n ?_
          refine W_seq ?_
          refine W_region ?_
          have ht9 : t = (ftN ff gg B.ends.length A.ends.length).length := by omega
          subst ht9
          rw [fb_full] at hN
          have hNi := hN.is
          refine WL_q rfl (ev_loads st31 sz31 rfl (cellsB hB16) rfl) ?_
          refine WL_m rfl (ev_call rfl (network_len _ _ _ _ _ _ (fibP A B ff gg) _ (by simp [fibP, fbE]) rfl (by simp [fibP, fbI]) hNi (by omega) (fib_tot hH))) ?_
          rintro _ w130 ⟨h130, U130, q130, rfl, hq130, hE130⟩
          have hz130 := hE130.size
          replace hE := hE.trans hE130
          replace hA := hA.ext hE130
          replace hB := hB.ext hE130
          replace hD := hD.ext hE130
          replace hff := hff.ext hE130
          replace hgg := hgg.ext hE130
          replace hB5 := hB5.ext hE130
          replace hB6 := hB6.ext hE130
          replace hB7 := hB7.ext hE130
          replace hB10 := hB10.ext hE130
          replace hM := hM.ext hE130
          replace hO := hO.ext hE130
          replace hB16 := hB16.ext hE130
          replace hN := hN.ext hE130
          replace hNi := hNi.ext hE130
          refine WL_q rfl (ev_extract rfl rfl) ?_
          refine WL_q rfl (ev_extract rfl rfl) ?_
          refine WL_s (ev_stores sz31 rfl rfl rfl (by simp [Value.oneCell']) hB10 (by simp)) ?_
          rintro _ w28_4 hS28_4
          have hz28_4 := hS28_4.size
          replace hE := hE.sto hS28_4 (by omega)
          replace hA := hA.sto hS28_4 (by omega)
          replace hB := hB.sto hS28_4 (by omega)
          replace hD := hD.sto hS28_4 (by omega)
          replace hff := hff.sto hS28_4 (by omega)
          replace hgg := hgg.sto hS28_4 (by omega)
          replace hB5 := hB5.sto hS28_4 (by omega)
          replace hB6 := hB6.sto hS28_4 (by omega)
          replace hB7 := hB7.sto hS28_4 (by omega)
          replace hM := hM.sto hS28_4 (by omega)
          replace hO := hO.sto hS28_4 (by omega)
          replace hB16 := hB16.sto hS28_4 (by omega)
          replace hN := hN.sto hS28_4 (by omega)
          replace hNi := hNi.sto hS28_4 (by omega)
          replace hB10 : Blk w28_4 _ _ [_, _, _] := hS28_4.blk
          refine WL_q rfl (ev_assign rfl) ?_
          refine WL_nil ?_
          refine thenE_n ?_
          refine W_ret ?_
          refine retc2 rfl rfl st31 sz31 (cellsB hB10) rfl rfl ?_
          first | (exact ⟨⟨none, 0, none, 0, none, 0⟩, ⟨[], [], []⟩, _, rfl, .no (fun h => hp25 ⟨h.1.a, h.1.d, h.1.pf⟩), OwnNet.nil, by decide, hE⟩) | (exact ⟨⟨none, 0, none, 0, none, 0⟩, ⟨[], [], []⟩, _, rfl, .no (fun h => hp31 ⟨h.1.b, h.1.d, h.1.pg⟩), OwnNet.nil, by decide, hE⟩) | (exact hq130.elim (fun ⟨e1, h1, e2, e3⟩ => (by subst e1 e2 e3; exact ⟨_, fibP A B ff gg, _, rfl, .yes ⟨hH, fib_of h1⟩ rfl, OwnNet.up ⟨_, _, hN⟩ (by omega) (by omega), fib_tot hH, hE⟩)) (fun ⟨e1, h1, e2, e3⟩ => (by subst e1 e2 e3; exact ⟨⟨none, 0, none, 0, none, 0⟩, ⟨[], [], []⟩, _, rfl, .no (fun h => h1 (fib_ok h.1 h.2.1 h.2.2)), OwnNet.nil, by decide, hE⟩)))

end Go.Proofs.Ytladejfcplpnaaa
