/- Contracts of IsConnected and DiameterOf, of the program and of the reference; the walks of their laws. -/
import Derived.Test.YtgnlfhggebijcaaMetric
namespace Go.Proofs.Ytgnlfhggebijcaa
open Go Go.RowKit

/-- Every node can be reached from node 0. -/
def Conn (A : Net) : Prop := ∀ d ∈ bfs A.ends 0, 0 ≤ d
theorem conn_no {A : Net} (hk : EndsOk A.ends) (h0 : 0 < A.ends.length) : (!decide (-1 ∈ bfs A.ends 0)) = true ↔ Conn A := by
  have hr := bfs_rng hk (v := 0) (by omega) (by simpa using h0)
  rw [Bool.not_eq_true', decide_eq_false_iff_not]
  exact ⟨fun h d hd => by have := hr d hd; by_cases e : d = -1; exact absurd (e ▸ hd) h; omega, fun h hm => by have := h _ hm; omega⟩
theorem conn_all {A : Net} (hk : EndsOk A.ends) (h0 : 0 < A.ends.length) (h40 : A.ends.length ≤ 40) : allR (bfs A.ends 0) 0 40 = true ↔ Conn A := by
  have hr := bfs_rng hk (v := 0) (by omega) (by simpa using h0)
  rw [allR_true]
  exact ⟨fun h d hd => (h d hd).1, fun h d hd => ⟨h d hd, by have := hr d hd; omega⟩⟩
def eccL (A : Net) : List Int := (List.range A.ends.length).map fun (v : Nat) => lmax (bfs A.ends v)
def eccM (A : Net) : List Int := (List.range A.ends.length).map fun (v : Nat) => mmax (bfs A.ends v)
theorem eccL_len (A : Net) : (eccL A).length = A.ends.length := by simp [eccL]
theorem eccM_len (A : Net) : (eccM A).length = A.ends.length := by simp [eccM]
theorem bfs_ex {A : Net} (hk : EndsOk A.ends) {v : Nat} (hv : v < A.ends.length) : ∃ x ∈ bfs A.ends v, 0 ≤ x := by
  have hs := bfs_src hk (v := (v : Int)) (by omega) (by simpa using hv)
  have hl := bfs_len hk (v := (v : Int)) (by omega) (by simpa using hv)
  rw [getD_eq (by simp [hl, hv])] at hs
  exact ⟨_, List.getElem_mem _, by rw [hs]; omega⟩
theorem ecc_eq {A : Net} (hk : EndsOk A.ends) : eccL A = eccM A := by
  unfold eccL eccM
  refine List.map_congr_left fun v hv => ?_
  exact (mmax_eq (bfs_ex hk (List.mem_range.1 hv))).symm
theorem eccM_pos (A : Net) : ∀ x ∈ eccM A, 0 ≤ x := by
  intro x hx
  obtain ⟨v, _, rfl⟩ := List.mem_map.1 hx
  exact (foldl_max_ge _ 0).1
theorem diam_eq {A : Net} (hk : EndsOk A.ends) (h0 : 0 < A.ends.length) : lmax (eccL A) = mmax (eccM A) := by
  rw [ecc_eq hk, mmax_eq]
  have : 0 < (eccM A).length := by rw [eccM_len]; exact h0
  exact ⟨_, List.getElem_mem this, eccM_pos A _ (List.getElem_mem this)⟩

set_option maxRecDepth 100000 in
theorem isConnected_spec {loA hiA : Nat} (nA : NA) (A : Net) (w : World) (hA : IsNet loA hiA w nA A) (hhiA : hiA ≤ w.heap.size) (hnA : totN A ≤ 1048576) (hk : EndsOk A.ends) (h0 : 0 < A.ends.length) :
    Fn Try.prog 69 #[netV nA A] w (fun v w' => ∃ b, v = VB b ∧ (b = true ↔ Conn A) ∧ Ext w w') := by
  have hqA := totL_len A.ends
  have hmA : totL A.ends + A.ids.length + A.inputs.length ≤ 1048576 := hnA
  have hl0 := bfs_len hk (v := 0) (by omega) (by omega)
  have hE := Ext.refl w
  refine Fn_of Try.func69 rfl rfl (by kernel_rfl) rfl ?_
  refine W_seq ?_
  refine W_region ?_
  refine WL_m rfl (ev_box rfl) ?_
  rintro _ w1 ⟨rfl, hN1⟩
  have hz1 := hN1.size
  replace hE := hE.trans hN1.ext
  replace hA := hA.ext hN1.ext
  have hB1 : Blk w1 _ _ [_, _, _] := hN1.blk
  refine WL_q rfl (ev_assign rfl) ?_
  refine WL_nil ?_
  refine thenE_n ?_
  refine W_seq ?_
  refine W_region ?_
  refine WL_q rfl (ev_loads st31 sz31 rfl (cellsB hB1) rfl) ?_
  refine WL_m rfl (ev_call rfl (dist_spec _ A _ _ hA (by omega) (by omega) (by assumption) (by omega))) ?_
  rintro _ w4 ⟨a4, c4, rfl, hO4, hE4⟩
  have hz4 := hE4.size
  replace hE := hE.trans hE4
  replace hA := hA.ext hE4
  replace hB1 := hB1.ext hE4
  refine WL_m rfl (ev_call rfl (Contains_len hl0 (own_i hO4) (by omega))) ?_
  rintro _ w5 ⟨rfl, hE5⟩
  have hz5 := hE5.size
  replace hE := hE.trans hE5
  replace hA := hA.ext hE5
  replace hB1 := hB1.ext hE5
  replace hO4 := hO4.ext hE5
  refine WL_q rfl (ev_not rfl) ?_
  refine WL_q rfl (ev_assign rfl) ?_
  refine WL_nil ?_
  refine thenE_n ?_
  refine W_ret ?_
  refine ret1 rfl rfl ?_
  exact ⟨_, rfl, conn_no hk h0, hE⟩

set_option maxRecDepth 100000 in
theorem meConnected_spec {loA hiA : Nat} (nA : NA) (A : Net) (w : World) (hA : IsNet loA hiA w nA A) (hhiA : hiA ≤ w.heap.size) (hnA : totN A ≤ 1048576) (hk : EndsOk A.ends) (h0 : 0 < A.ends.length) (h40 : A.ends.length ≤ 40) :
    Fn Try.prog 68 #[netV nA A] w (fun v w' => ∃ b, v = VB b ∧ (b = true ↔ Conn A) ∧ Ext w w') := by
  have hqA := totL_len A.ends
  have hmA : totL A.ends + A.ids.length + A.inputs.length ≤ 1048576 := hnA
  have hl0 := bfs_len hk (v := 0) (by omega) (by omega)
  have hE := Ext.refl w
  refine Fn_of Try.func68 rfl rfl (by kernel_rfl) rfl ?_
  refine W_seq ?_
  refine W_region ?_
  refine WL_m rfl (ev_box rfl) ?_
  rintro _ w1 ⟨rfl, hN1⟩
  have hz1 := hN1.size
  replace hE := hE.trans hN1.ext
  replace hA := hA.ext hN1.ext
  have hB1 : Blk w1 _ _ [_, _, _] := hN1.blk
  refine WL_q rfl (ev_assign rfl) ?_
  refine WL_nil ?_
  refine thenE_n ?_
  refine W_seq ?_
  refine W_region ?_
  refine WL_q rfl (ev_loads st31 sz31 rfl (cellsB hB1) rfl) ?_
  refine WL_m rfl (ev_call rfl (meFrom_spec _ A _ _ hA (by omega) (by omega) (by assumption) (by omega))) ?_
  rintro _ w4 ⟨a4, c4, rfl, hO4, hE4⟩
  have hz4 := hE4.size
  replace hE := hE.trans hE4
  replace hA := hA.ext hE4
  replace hB1 := hB1.ext hE4
  refine WL_m rfl (ev_call rfl (l1All_len hl0 (own_i hO4) (by omega))) ?_
  rintro _ w5 ⟨rfl, hE5⟩
  have hz5 := hE5.size
  replace hE := hE.trans hE5
  replace hA := hA.ext hE5
  replace hB1 := hB1.ext hE5
  replace hO4 := hO4.ext hE5
  refine WL_q rfl (ev_assign rfl) ?_
  refine WL_nil ?_
  refine thenE_n ?_
  refine W_ret ?_
  refine ret1 rfl rfl ?_
  exact ⟨_, rfl, conn_all hk h0 h40, hE⟩

set_option maxRecDepth 100000 in
theorem ecc_spec {loA hiA : Nat} (nA : NA) (A : Net) (w : World) (hA : IsNet loA hiA w nA A) (hhiA : hiA ≤ w.heap.size) (hnA : totN A ≤ 1048576) (hk : EndsOk A.ends) :
    Fn Try.prog 70 #[netV nA A] w (fun r w' => ∃ a' c', r = .slice a' (eccL A).length c' ∧ Own w.heap.size w' 3 1 a' (eccL A).length c' ((eccL A).map VI) ∧ Ext w w') := by
  have hqA := totL_len A.ends
  have hmA : totL A.ends + A.ids.length + A.inputs.length ≤ 1048576 := hnA
  have hel := eccL_len A
  have hE := Ext.refl w
  refine Fn_of Try.func70 rfl rfl (by kernel_rfl) rfl ?_
  refine W_seq ?_
  refine W_region ?_
  refine WL_m rfl (ev_box rfl) ?_
  rintro _ w1 ⟨rfl, hN1⟩
  have hz1 := hN1.size
  replace hE := hE.trans hN1.ext
  replace hA := hA.ext hN1.ext
  have hB1 : Blk w1 _ _ [_, _, _] := hN1.blk
  refine WL_q rfl (ev_assign rfl) ?_
  refine WL_nil ?_
  refine thenE_n ?_
  refine W_seq ?_
  refine W_region ?_
  refine WL_q rfl (ev_assign rfl) ?_
  refine WL_nil ?_
  refine thenE_n ?_
  refine W_seq ?_
  refine W_seq ?_
  refine W_region ?_
  refine WL_q rfl (ev_fieldAddr fo31_0 rfl) ?_
  refine WL_q rfl (ev_load one29 rfl (hB1.cell rfl)) ?_
  refine WL_q rfl (ev_len Try.underlying29 rfl) ?_
  refine WL_q rfl (ev_move rfl) ?_
  refine WL_nil ?_
  refine thenE_n ?_
  refine W_block ?_
  refine W_loopC (G := Nat × Option Addr × Nat) [(1, _), (7, _)] ((Subs.c rfl (Subs.c rfl Subs.n))) (fun ⟨i, a, c⟩ => [(3, .slice a i c), (8, VI (i : Int))]) (fun ⟨i, a, c⟩ w' => Ext w1 w' ∧ i ≤ A.ends.length ∧ OwnH w1.heap.size w'.heap.size 0 0 w' 3 1 a i c (((eccL A).take i).map VI)) (fun g => A.ends.length - g.1) (0, none, 0) ((Subs.c rfl (Subs.c (lkI rfl (by omega)) Subs.n))) (⟨Ext.refl _, ⟨by omega, OwnH.nil⟩⟩) ?_
  rintro ⟨i, a, c⟩ wL0 ⟨hRL0, hi', hO⟩
  have hzL0 := hRL0.size
  replace hE := hE.trans hRL0
  replace hA := hA.ext hRL0
  replace hB1 := hB1.ext hRL0
  refine W_seq ?_
  refine W_region ?_
  refine WL_q rfl (ev_lss rfl rfl) ?_
  refine WL_nil ?_
  refine thenE_n ?_
  refine W_seq ?_
  refine W_cond rfl (fun hg9 => ?_) (fun hg9 => ?_)
  · have hp9 := of_decide_eq_true hg9
    refine W_skip ?_
    refine thenE_n ?_
    refine W_seq ?_
    refine W_block ?_
    refine W_seq ?_
    refine W_region ?_
    refine WL_q rfl (ev_move rfl) ?_
    refine WL_q rfl (ev_assign rfl) ?_
    refine WL_nil ?_
    refine thenE_n ?_
    refine W_region ?_
    refine WL_q rfl (ev_move rfl) ?_
    refine WL_q rfl (ev_loads st31 sz31 rfl (cellsB hB1) rfl) ?_
    refine WL_q rfl (ev_move rfl) ?_
    refine WL_m rfl (ev_call rfl (dist_spec _ A _ _ hA (by omega) (by omega) (by assumption) (by omega))) ?_
    rintro _ w14 ⟨a14, c14, rfl, hO14, hE14⟩
    have hz14 := hE14.size
    replace hE := hE.trans hE14
    replace hRL0 := hRL0.trans hE14
    replace hA := hA.ext hE14
    replace hB1 := hB1.ext hE14
    replace hO := hO.ext hE14
    have hl0 := bfs_len hk (v := (i : Int)) (by omega) (by omega)
    refine WL_m rfl (ev_call rfl (Max_len hl0 (own_i hO14) (by omega) (by omega))) ?_
    rintro _ w15 ⟨rfl, hE15⟩
    have hz15 := hE15.size
    replace hE := hE.trans hE15
    replace hRL0 := hRL0.trans hE15
    replace hA := hA.ext hE15
    replace hB1 := hB1.ext hE15
    replace hO := hO.ext hE15
    replace hO14 := hO14.ext hE15
    refine WL_m rfl (ev_lit1 Try.underlying23 el3 (by decide) (by decide) rfl rfl) ?_
    rintro _ w16 ⟨rfl, hN16⟩
    have hz16 := hN16.size
    replace hE := hE.trans hN16.ext
    replace hRL0 := hRL0.trans hN16.ext
    replace hA := hA.ext hN16.ext
    replace hB1 := hB1.ext hN16.ext
    replace hO := hO.ext hN16.ext
    replace hO14 := hO14.ext hN16.ext
    have hB16 := hN16.blk
    refine WL_m rfl (ev_appendT Try.underlying23 el3 rfl (by decide) rfl rfl hO (SAt.of_blk (cs := [_]) (ds := []) hB16) rfl (by simp [Value.oneCell']) (by omega) (by unfold maxLen; omega) (by omega)) ?_
    rintro _ w17 ⟨a17, c17, rfl, hO17, hK17, hQ17⟩
    have hz17 := hK17.size
    replace hE := hE.rg hK17 (by omega)
    replace hRL0 := hRL0.rg hK17 (by omega)
    replace hA := hA.rg hK17 (by omega)
    replace hB1 := hB1.rg hK17 (by omega)
    replace hO14 := hO14.rg hK17 (by omega)
    replace hB16 := hB16.rg hK17 (by omega)
    replace hO := hO17
    replace hO := ownt_snocI hO
    refine WL_q rfl (ev_assign rfl) ?_
    refine WL_nil ?_
    refine blockE_n ?_
    refine thenE_n ?_
    refine W_region ?_
    refine WL_q rfl (ev_add rfl rfl (by omega)) ?_
    refine WL_q rfl (ev_move rfl) ?_
    refine WL_nil ?_
    refine thenE_n ?_
    exact ⟨(i + 1, a17, c17), (Subs.c rfl (Subs.c rfl Subs.n)), (Subs.c rfl (Subs.c (lkI rfl (by omega)) Subs.n)), ⟨hRL0, ⟨by omega, (ownt_take hO (by omega) (by simp [eccL])).up (Nat.le_refl _) (by omega)⟩⟩, by first | omega | (dsimp only; omega)⟩
  · have hp9 := of_decide_eq_false hg9
    refine W_exit ?_
    refine thenE_x ?_
    refine thenE_x ?_
    refine blockE_hit ?_
    refine thenE_n ?_
    refine W_seq ?_
    refine W_region ?_
    refine WL_q rfl (ev_move rfl) ?_
    refine WL_q rfl (ev_assign rfl) ?_
    refine WL_nil ?_
    refine thenE_n ?_
    refine W_ret ?_
    refine ret1 rfl rfl ?_
    have hi9 : i = (eccL A).length := by omega
    subst hi9
    exact ⟨_, _, rfl, by rw [List.take_length] at hO; exact hO.1.mono (by omega), hE⟩

end Go.Proofs.Ytgnlfhggebijcaa
