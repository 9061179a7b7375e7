/- Contracts of IsConnected and DiameterOf, of the program and of the reference; the walks of their laws. -/
import Derived.Test.YtiagmcjhpckcaaaMetric
namespace Go.Proofs.Ytiagmcjhpckcaaa
open Go Go.RowKit

/-- Every node can be reached from node 0. -/
def Conn (A : Net) : Prop := ∀ d ∈ bfs A.ends 0, 0 ≤ d
theorem conn_no {A : Net} (hk : EndsOk A.ends) (h0 : 0 < A.ends.length) : (!decide (-1 ∈ bfs A.ends 0)) = true ↔ Conn A := by
  have hr := bfs_rng hk (v := 0) (by omega) (by simpa using h0)
  rw [Bool.not_eq_true', decide_eq_false_iff_not]
  exact ⟨fun h d hd => by have := hr d hd; by_cases e : d = -1; exact absurd (e ▸ hd) h; omega, fun h hm => by have := h _ hm; omega⟩
theorem conn_all {A : Net} (hk : EndsOk A.ends) (h0 : 0 < A.ends.length) (h40 : A.ends.length ≤ 40) : allR (bfs A.ends 0) 0 40 = true ↔ Conn A := by
  have hr := bfs_rng hk (v := 0) (by omega) (by simpa using h0)
  rw [allR_true]
  exact ⟨fun h d hd => (h d hd).1, fun h d hd => ⟨h d hd, by have := hr d hd; omega⟩⟩
def eccL (A : Net) : List Int := (List.range A.ends.length).map fun (v : Nat) => lmax (bfs A.ends v)
def eccM (A : Net) : List Int := (List.range A.ends.length).map fun (v : Nat) => mmax (bfs A.ends v)
theorem eccL_len (A : Net) : (eccL A).length = A.ends.length := by simp [eccL]
theorem eccM_len (A : Net) : (eccM A).length = A.ends.length := by simp [eccM]
theorem bfs_ex {A : Net} (hk : EndsOk A.ends) {v : Nat} (hv : v < A.ends.length) : ∃ x ∈ bfs A.ends v, 0 ≤ x := by
  have hs := bfs_src hk (v := (v : Int)) (by omega) (by simpa using hv)
  have hl := bfs_len hk (v := (v : Int)) (by omega) (by simpa using hv)
  rw [getD_eq (by simp [hl, hv])] at hs
  exact ⟨_, List.getElem_mem _, by rw [hs]; omega⟩
theorem ecc_eq {A : Net} (hk : EndsOk A.ends) : eccL A = eccM A := by
  unfold eccL eccM
  refine List.map_congr_left fun v hv => ?_
  exact (mmax_eq (bfs_ex hk (List.mem_range.1 hv))).symm
theorem eccM_pos (A : Net) : ∀ x ∈ eccM A, 0 ≤ x := by
  intro x hx
  obtain ⟨v, _, rfl⟩ := List.mem_map.1 hx
  exact (foldl_max_ge _ 0).1
theorem diam_eq {A : Net} (hk : EndsOk A.ends) (h0 : 0 < A.ends.length) : lmax (eccL A) = mmax (eccM A) := by
  rw [ecc_eq hk, mmax_eq]
  have : 0 < (eccM A).length := by rw [eccM_len]; exact h0
  exact ⟨_, List.getElem_mem this, eccM_pos A _ (List.getElem_mem this)⟩

set_option maxRecDepth 100000 in
theorem isConnected_spec {loA hiA : Nat} (nA : NA) (A : Net) (w : World) (hA : IsNet loA hiA w nA A) (hhiA : hiA ≤ w.heap.size) (hnA : totN A ≤ 1048576) (hk : EndsOk A.ends) (h0 : 0 < A.ends.length) :
    Fn Try.prog 75 #[netV nA A] w (fun v w' => ∃ b, v = VB b ∧ (b = true ↔ Conn A) ∧ Ext w w') := by
  have hqA := totL_len A.ends
  have hmA : totL A.ends + A.ids.length + A.inputs.length ≤ 1048576 := hnA
  have hl0 := bfs_len hk (v := 0) (by omega) (by omega)
  have hE := Ext.refl w
  refine Fn_of Try.func75 rfl rfl (by kernel_rfl) rfl ?_
  refine W_seq ?_
  refine W_region ?_
  refine WL_m rfl (ev_box rfl) ?_
  rintro _ w1 ⟨rfl, hN1⟩
  have hz1 := hN1.size
  replace hE := hE.trans hN1.ext
  replace hA := hA.ext hN1.ext
  have hB1 : Blk w1 _ _ [_, _, _] := hN1.blk
  refine WL_q rfl (ev_assign rfl) ?_
  refine WL_nil ?_
  refine thenE_n ?_
  refine W_seq ?_
  refine W_region ?_
  refine WL_q rfl (ev_loads st41 sz41 rfl (cellsB hB1) rfl) ?_
  refine WL_m rfl (ev_call rfl (dist_spec _ A _ _ hA (by omega) (by omega) (by assumption) (by omega))) ?_
  rintro _ w4 ⟨a4, c4, rfl, hO4, hE4⟩
  have hz4 := hE4.size
  replace hE := hE.trans hE4
  replace hA := hA.ext hE4
  replace hB1 := hB1.ext hE4
  refine WL_m rfl (ev_call rfl (Contains_len hl0 (own_i hO4) (by omega))) ?_
  rintro _ w5 ⟨rfl, hE5⟩
  have hz5 := hE5.size
  replace hE := hE.trans hE5
  replace hA := hA.ext hE5
  replace hB1 := hB1.ext hE5
  replace hO4 := hO4.ext hE5
  refine WL_q rfl (ev_not rfl) ?_
  refine WL_q rfl (ev_assign rfl) ?_
  refine WL_nil ?_
  refine thenE_n ?_
  refine W_ret ?_
  refine ret1 rfl rfl ?_
  exact ⟨_, rfl, conn_no hk h0, hE⟩

set_option maxRecDepth 100000 in
theorem meConnected_spec {loA hiA : Nat} (nA : NA) (A : Net) (w : World) (hA : IsNet loA hiA w nA A) (hhiA : hiA ≤ w.heap.size) (hnA : totN A ≤ 1048576) (hk : EndsOk A.ends) (h0 : 0 < A.ends.length) (h40 : A.ends.length ≤ 40) :
    Fn Try.prog 74 #[netV nA A] w (fun v w' => ∃ b, v = VB b ∧ (b = true ↔ Conn A) ∧ Ext w w') := by
  have hqA := totL_len A.ends
  have hmA : totL A.ends + A.ids.length + A.inputs.length ≤ 1048576 := hnA
  have hl0 := bfs_len hk (v := 0) (by omega) (by omega)
  have hE := Ext.refl w
  refine Fn_of Try.func74 rfl rfl (by kernel_rfl) rfl ?_
  refine W_seq ?_
  refine W_region ?_
  refine WL_m rfl (ev_box rfl) ?_
  rintro _ w1 ⟨rfl, hN1⟩
  have hz1 := hN1.size
  replace hE := hE.trans hN1.ext
  replace hA := hA.ext hN1.ext
  have hB1 : Blk w1 _ _ [_, _, _] := hN1.blk
  refine WL_q rfl (ev_assign rfl) ?_
  refine WL_nil ?_
  refine thenE_n ?_
  refine W_seq ?_
  refine W_region ?_
  refine WL_q rfl (ev_loads st41 sz41 rfl (cellsB hB1) rfl) ?_
  refine WL_m rfl (ev_call rfl (meFrom_spec _ A _ _ hA (by omega) (by omega) (by assumption) (by omega))) ?_
  rintro _ w4 ⟨a4, c4, rfl, hO4, hE4⟩
  have hz4 := hE4.size
  replace hE := hE.trans hE4
  replace hA := hA.ext hE4
  replace hB1 := hB1.ext hE4
  refine WL_m rfl (ev_call rfl (l1All_len hl0 (own_i hO4) (by omega))) ?_
  rintro _ w5 ⟨rfl, hE5⟩
  have hz5 := hE5.size
  replace hE := hE.trans hE5
  replace hA := hA.ext hE5
  replace hB1 := hB1.ext hE5
  replace hO4 := hO4.ext hE5
  refine WL_q rfl (ev_assign rfl) ?_
  refine WL_nil ?_
  refine thenE_n ?_
  refine W_ret ?_
  refine ret1 rfl rfl ?_
  exact ⟨_, rfl, conn_all hk h0 h40, hE⟩

set_option maxRecDepth 100000 in
theorem sIsConnected_spec {loA hiA : Nat} (nA : NA) (A : Net) (w : World) (hA : IsNet loA hiA w nA A) (hhiA : hiA ≤ w.heap.size) (hnA : totN A ≤ 1048576) :
    Fn Try.prog 29 #[netV nA A] w (fun v w' => ∃ b q, v = .tuple #[VB b, VB q] ∧ Two b q (NOk A) (Conn A) ∧ Ext w w') := by
  have hqA := totL_len A.ends
  have hmA : totL A.ends + A.ids.length + A.inputs.length ≤ 1048576 := hnA
  have hE := Ext.refl w
  refine Fn_of Try.func29 rfl rfl (by kernel_rfl) rfl ?_
  refine W_seq ?_
  refine W_region ?_
  refine WL_m rfl (ev_box rfl) ?_
  rintro _ w1 ⟨rfl, hN1⟩
  have hz1 := hN1.size
  replace hE := hE.trans hN1.ext
  replace hA := hA.ext hN1.ext
  have hB1 : Blk w1 _ _ [_, _, _] := hN1.blk
  refine WL_q rfl (ev_assign rfl) ?_
  refine WL_q rfl (ev_assign rfl) ?_
  refine WL_nil ?_
  refine thenE_n ?_
  refine W_seq ?_
  refine W_seq ?_
  refine W_region ?_
  refine WL_q rfl (ev_loads st41 sz41 rfl (cellsB hB1) rfl) ?_
  refine WL_m rfl (ev_call rfl (neGood_spec _ A _ hA (by omega) (by omega))) ?_
  rintro _ w5 ⟨b5, rfl, hb5, hE5⟩
  have hz5 := hE5.size
  replace hE := hE.trans hE5
  replace hA := hA.ext hE5
  replace hB1 := hB1.ext hE5
  refine WL_q rfl (ev_not rfl) ?_
  refine WL_nil ?_
  refine thenE_n ?_
  refine W_cond rfl (fun hg6 => ?_) (fun hg6 => ?_)
  · have hg5 := not_true hg6
    have hp5 := ttN hb5 hg5
    refine W_seq ?_
    refine W_region ?_
    refine WL_q rfl (ev_assign rfl) ?_
    refine WL_q rfl (ev_assign rfl) ?_
    refine WL_nil ?_
    refine thenE_n ?_
    refine W_ret ?_
    refine thenE_r ?_
    refine ret2 rfl rfl rfl ?_
    first | (exact ⟨_, _, rfl, .no hp5, hE⟩) | (exact ⟨_, _, rfl, .yes hp5 hb8, hE⟩)
  · have hg5 := not_false hg6
    have hp5 := hb5.1 hg5
    refine W_skip ?_
    refine thenE_n ?_
    refine W_seq ?_
    refine W_region ?_
    have hk := hp5.endsOk
    have hnd := hp5.nodes
    refine WL_q rfl (ev_loads st41 sz41 rfl (cellsB hB1) rfl) ?_
    refine WL_m rfl (ev_call rfl (meConnected_spec _ A _ hA (by omega) (by omega) (by assumption) (by omega) (by omega))) ?_
    rintro _ w8 ⟨b8, rfl, hb8, hE8⟩
    have hz8 := hE8.size
    replace hE := hE.trans hE8
    replace hA := hA.ext hE8
    replace hB1 := hB1.ext hE8
    refine WL_q rfl (ev_assign rfl) ?_
    refine WL_q rfl (ev_assign rfl) ?_
    refine WL_nil ?_
    refine thenE_n ?_
    refine W_ret ?_
    refine ret2 rfl rfl rfl ?_
    first | (exact ⟨_, _, rfl, .no hp5, hE⟩) | (exact ⟨_, _, rfl, .yes hp5 hb8, hE⟩)

set_option maxRecDepth 100000 in
theorem IsConnected_spec {loA hiA : Nat} (nA : NA) (A : Net) (w : World) (hA : IsNet loA hiA w nA A) (hhiA : hiA ≤ w.heap.size) (hnA : totN A ≤ 1048576) :
    Fn Try.prog 30 #[netV nA A] w (fun v w' => ∃ b q, v = .tuple #[VB b, VB q] ∧ Two b q (NOk A) (Conn A) ∧ Ext w w') := by
  have hqA := totL_len A.ends
  have hmA : totL A.ends + A.ids.length + A.inputs.length ≤ 1048576 := hnA
  have hE := Ext.refl w
  refine Fn_of Try.func30 rfl rfl (by kernel_rfl) rfl ?_
  refine W_seq ?_
  refine W_region ?_
  refine WL_m rfl (ev_box rfl) ?_
  rintro _ w1 ⟨rfl, hN1⟩
  have hz1 := hN1.size
  replace hE := hE.trans hN1.ext
  replace hA := hA.ext hN1.ext
  have hB1 : Blk w1 _ _ [_, _, _] := hN1.blk
  refine WL_q rfl (ev_assign rfl) ?_
  refine WL_q rfl (ev_assign rfl) ?_
  refine WL_nil ?_
  refine thenE_n ?_
  refine W_seq ?_
  refine W_seq ?_
  refine W_region ?_
  refine WL_q rfl (ev_loads st41 sz41 rfl (cellsB hB1) rfl) ?_
  refine WL_m rfl (ev_call rfl (IsNetwork_spec _ A _ hA (by omega) (by omega))) ?_
  rintro _ w5 ⟨b5, rfl, hb5, hE5⟩
  have hz5 := hE5.size
  replace hE := hE.trans hE5
  replace hA := hA.ext hE5
  replace hB1 := hB1.ext hE5
  refine WL_q rfl (ev_not rfl) ?_
  refine WL_nil ?_
  refine thenE_n ?_
  refine W_cond rfl (fun hg6 => ?_) (fun hg6 => ?_)
  · have hg5 := not_true hg6
    have hp5 := ttN hb5 hg5
    refine W_seq ?_
    refine W_region ?_
    refine WL_q rfl (ev_assign rfl) ?_
    refine WL_q rfl (ev_assign rfl) ?_
    refine WL_nil ?_
    refine thenE_n ?_
    refine W_ret ?_
    refine thenE_r ?_
    refine ret2 rfl rfl rfl ?_
    first | (exact ⟨_, _, rfl, .no hp5, hE⟩) | (exact ⟨_, _, rfl, .yes hp5 hb8, hE⟩)
  · have hg5 := not_false hg6
    have hp5 := hb5.1 hg5
    refine W_skip ?_
    refine thenE_n ?_
    refine W_seq ?_
    refine W_region ?_
    have hk := hp5.endsOk
    have hnd := hp5.nodes
    refine WL_q rfl (ev_loads st41 sz41 rfl (cellsB hB1) rfl) ?_
    refine WL_m rfl (ev_call rfl (isConnected_spec _ A _ hA (by omega) (by omega) (by assumption) (by omega))) ?_
    rintro _ w8 ⟨b8, rfl, hb8, hE8⟩
    have hz8 := hE8.size
    replace hE := hE.trans hE8
    replace hA := hA.ext hE8
    replace hB1 := hB1.ext hE8
    refine WL_q rfl (ev_assign rfl) ?_
    refine WL_q rfl (ev_assign rfl) ?_
    refine WL_nil ?_
    refine thenE_n ?_
    refine W_ret ?_
    refine ret2 rfl rfl rfl ?_
    first | (exact ⟨_, _, rfl, .no hp5, hE⟩) | (exact ⟨_, _, rfl, .yes hp5 hb8, hE⟩)

set_option maxRecDepth 100000 in
theorem law_IsConnected (nA : NA) (A : Net) (w : World) (hA : IsNet 0 w.heap.size w nA A) (hsA : SmN A) :
    Fn Try.prog 6 #[netV nA A] w (fun v w' => v = VB true ∧ Ext w w') := by
  have hE := Ext.refl w
  refine Fn_of Try.func6 rfl rfl (by kernel_rfl) rfl ?_
  refine W_seq ?_
  refine W_region ?_
  refine WL_m rfl (ev_box rfl) ?_
  rintro _ w1 ⟨rfl, hN1⟩
  have hz1 := hN1.size
  replace hE := hE.trans hN1.ext
  replace hA := hA.ext hN1.ext
  have hB1 : Blk w1 _ _ [_, _, _] := hN1.blk
  refine WL_q rfl (ev_assign rfl) ?_
  refine WL_nil ?_
  refine thenE_n ?_
  refine W_seq ?_
  refine W_region ?_
  refine WL_q rfl (ev_assign rfl) ?_
  refine WL_nil ?_
  refine thenE_n ?_
  refine W_seq ?_
  refine W_region ?_
  refine WL_q rfl (ev_loads st35 sz35 rfl (cellsB hB1) rfl) ?_
  refine WL_q rfl (ev_move rfl) ?_
  refine WL_m rfl (ev_call rfl (szNetwork_spec _ A _ _ hA (by omega) hsA)) ?_
  rintro _ w11 ⟨r11, rfl, hE11, hr11⟩
  have hz11 := hE11.size
  replace hE := hE.trans hE11
  replace hA := hA.ext hE11
  replace hB1 := hB1.ext hE11
  refine WL_q rfl (ev_assign rfl) ?_
  refine WL_nil ?_
  refine thenE_n ?_
  refine W_seq ?_
  refine W_seq ?_
  refine W_region ?_
  refine WL_q rfl (ev_move rfl) ?_
  refine WL_q rfl (ev_lss rfl rfl) ?_
  refine WL_nil ?_
  refine thenE_n ?_
  refine W_cond rfl (fun hg13 => ?_) (fun hg13 => ?_)
  · have hp13 := of_decide_eq_true hg13
    refine W_seq ?_
    refine W_region ?_
    refine WL_q rfl (ev_assign rfl) ?_
    refine WL_nil ?_
    refine thenE_n ?_
    refine W_ret ?_
    refine thenE_r ?_
    refine ret1 rfl rfl ?_
    first | (exact ⟨rfl, hE⟩) | (exact (tfX hg13).elim) | (exact (decF hg13).elim) | (exfalso; omega)
  · have hp13 := of_decide_eq_false hg13
    refine W_skip ?_
    refine thenE_n ?_
    refine W_seq ?_
    refine W_region ?_
    refine WL_q rfl (ev_loads st35 sz35 rfl (cellsB hB1) rfl) ?_
    refine WL_m rfl (ev_call rfl (toNetwork_spec _ A _ hA (by omega) (by omega))) ?_
    rintro _ w16 ⟨h16, rfl, hF16, hE16⟩
    have hz16 := hE16.size
    replace hE := hE.trans hE16
    replace hA := hA.ext hE16
    replace hB1 := hB1.ext hE16
    have hN16 := hF16.is
    refine WL_m rfl (ev_call rfl (sIsConnected_spec _ A _ hN16 (by omega) (by omega))) ?_
    rintro _ w17 ⟨b17, q17, rfl, hr17, hE17⟩
    have hz17 := hE17.size
    replace hE := hE.trans hE17
    replace hA := hA.ext hE17
    replace hB1 := hB1.ext hE17
    replace hF16 := hF16.ext hE17
    replace hN16 := hN16.ext hE17
    refine WL_q rfl (ev_move rfl) ?_
    refine WL_q rfl (ev_extract rfl rfl) ?_
    refine WL_q rfl (ev_extract rfl rfl) ?_
    refine WL_q rfl (ev_assign rfl) ?_
    refine WL_q rfl (ev_assign rfl) ?_
    refine WL_nil ?_
    refine thenE_n ?_
    refine W_seq ?_
    refine W_region ?_
    refine WL_q rfl (ev_loads st35 sz35 rfl (cellsB hB1) rfl) ?_
    refine WL_m rfl (ev_call rfl (toNetwork_spec _ A _ hA (by omega) (by omega))) ?_
    rintro _ w21 ⟨h21, rfl, hF21, hE21⟩
    have hz21 := hE21.size
    replace hE := hE.trans hE21
    replace hA := hA.ext hE21
    replace hB1 := hB1.ext hE21
    replace hF16 := hF16.ext hE21
    replace hN16 := hN16.ext hE21
    have hN21 := hF21.is
    refine WL_m rfl (ev_alloc zr41) ?_
    rintro _ w6 ⟨rfl, hN6⟩
    have hz6 := hN6.size
    replace hE := hE.trans hN6.ext
    replace hA := hA.ext hN6.ext
    replace hB1 := hB1.ext hN6.ext
    replace hF16 := hF16.ext hN6.ext
    replace hN16 := hN16.ext hN6.ext
    replace hF21 := hF21.ext hN6.ext
    replace hN21 := hN21.ext hN6.ext
    have hB6 : Blk w6 _ _ [_, _, _] := hN6.blk
    refine WL_s (ev_stores sz41 rfl rfl rfl (by simp [Value.oneCell']) hB6 (by simp)) ?_
    rintro _ w6_3 hS6_3
    have hz6_3 := hS6_3.size
    replace hE := hE.sto hS6_3 (by omega)
    replace hA := hA.sto hS6_3 (by omega)
    replace hB1 := hB1.sto hS6_3 (by omega)
    replace hF16 := hF16.sto hS6_3 (by omega)
    replace hN16 := hN16.sto hS6_3 (by omega)
    replace hF21 := hF21.sto hS6_3 (by omega)
    replace hN21 := hN21.sto hS6_3 (by omega)
    replace hB6 : Blk w6_3 _ _ [_, _, _] := hS6_3.blk
    refine WL_nil ?_
    refine thenE_n ?_
    refine W_seq ?_
    refine W_region ?_
    refine WL_q rfl (ev_loads st41 sz41 rfl (cellsB hB6) rfl) ?_
    refine WL_m rfl (ev_call rfl (IsConnected_spec _ A _ hN21 (by omega) (by omega))) ?_
    rintro _ w24 ⟨b24, q24, rfl, hr24, hE24⟩
    have hz24 := hE24.size
    replace hE := hE.trans hE24
    replace hA := hA.ext hE24
    replace hB1 := hB1.ext hE24
    replace hF16 := hF16.ext hE24
    replace hN16 := hN16.ext hE24
    replace hF21 := hF21.ext hE24
    replace hN21 := hN21.ext hE24
    replace hB6 := hB6.ext hE24
    refine WL_q rfl (ev_move rfl) ?_
    refine WL_q rfl (ev_extract rfl rfl) ?_
    refine WL_q rfl (ev_extract rfl rfl) ?_
    refine WL_q rfl (ev_assign rfl) ?_
    refine WL_q rfl (ev_assign rfl) ?_
    refine WL_nil ?_
    refine thenE_n ?_
    refine W_seq ?_
    refine W_seq ?_
    refine W_region ?_
    refine WL_q rfl (ev_move rfl) ?_
    refine WL_q rfl (ev_move rfl) ?_
    refine WL_q rfl (ev_neq_b Try.underlying4 rfl rfl) ?_
    refine WL_q rfl (ev_move rfl) ?_
    refine WL_splitv (t := 30) rfl (fun hg29 => ?_) (fun hg29 => ?_)
    · refine WL_no rfl rfl hg29 rfl ?_
      refine WL_no rfl rfl hg29 rfl ?_
      refine WL_no rfl rfl hg29 rfl ?_
      refine WL_q rfl (ev_pick_t rfl hg29 rfl) ?_
      refine WL_nil ?_
      refine thenE_n ?_
      refine W_cond_t rfl ?_
      refine W_seq ?_
      refine W_region ?_
      refine WL_q rfl (ev_assign rfl) ?_
      refine WL_nil ?_
      refine thenE_n ?_
      refine W_ret ?_
      refine thenE_r ?_
      refine ret1 rfl rfl ?_
      first | (exact ⟨rfl, hE⟩) | (exact (bneE hg29 (hr24.det1 hr17)).elim) | (exact absurd (hr24.det1 hr17) hp29) | (exact absurd (hr24.det1 hr17) (of_decide_eq_false hg29)) | (exact (bneE hg29 (hr24.det2 hr17)).elim) | (exact absurd (hr24.det2 hr17) hp29) | (exact absurd (hr24.det2 hr17) (of_decide_eq_false hg29)) | (exact (bneE hg29 (hr24.det3 hr17)).elim) | (exact absurd (hr24.det3 hr17) hp29) | (exact absurd (hr24.det3 hr17) (of_decide_eq_false hg29)) | (exact (tfX hg29).elim) | (exact (decF hg29).elim) | (exfalso; omega)
    · refine WL_qg rfl rfl hg29 rfl (ev_move rfl) ?_
      refine WL_qg rfl rfl hg29 rfl (ev_move rfl) ?_
      refine WL_qg rfl rfl hg29 rfl (ev_neq_b Try.underlying4 rfl rfl) ?_
      refine WL_q rfl (ev_pick_f rfl hg29 rfl) ?_
      refine WL_nil ?_
      refine thenE_n ?_
      refine W_cond rfl (fun hg33 => ?_) (fun hg33 => ?_)
      · refine W_seq ?_
        refine W_region ?_
        refine WL_q rfl (ev_assign rfl) ?_
        refine WL_nil ?_
        refine thenE_n ?_
        refine W_ret ?_
        refine thenE_r ?_
        refine ret1 rfl rfl ?_
        first | (exact ⟨rfl, hE⟩) | (exact (bneE hg33 (hr24.det1 hr17)).elim) | (exact absurd (hr24.det1 hr17) hp33) | (exact absurd (hr24.det1 hr17) (of_decide_eq_false hg33)) | (exact (bneE hg33 (hr24.det2 hr17)).elim) | (exact absurd (hr24.det2 hr17) hp33) | (exact absurd (hr24.det2 hr17) (of_decide_eq_false hg33)) | (exact (bneE hg33 (hr24.det3 hr17)).elim) | (exact absurd (hr24.det3 hr17) hp33) | (exact absurd (hr24.det3 hr17) (of_decide_eq_false hg33)) | (exact (tfX hg33).elim) | (exact (decF hg33).elim) | (exfalso; omega)
      · refine W_skip ?_
        refine thenE_n ?_
        refine W_seq ?_
        refine W_seq ?_
        refine W_drawE [(0, true), (1, true), (2, false), (3, false), (4, true)] mixed (by kernel_rfl) rfl (by kernel_rfl) ?_
        intro wd10 hEd10 hzd10
        replace hE := hE.trans hEd10
        replace hA := hA.ext hEd10
        replace hB1 := hB1.ext hEd10
        replace hF16 := hF16.ext hEd10
        replace hN16 := hN16.ext hEd10
        replace hF21 := hF21.ext hEd10
        replace hN21 := hN21.ext hEd10
        replace hB6 := hB6.ext hEd10
        have hDd10 := Ext.refl wd10
        refine PW_q rfl rfl (fun wq hq => ev_loads st41 sz41 rfl (cellsB (hq.blk hB6)) rfl) ?_
        refine PW_q rfl rfl (fun wq hq => ev_loads st35 sz35 rfl (cellsB (hq.blk hB1)) rfl) ?_
        refine PW_m rfl rfl (ev_call rfl (toNetwork_spec _ A _ hA (by omega) (by omega))) ?_
        rintro _ w37 ⟨h37, rfl, hF37, hE37⟩
        have hz37 := hE37.size
        replace hE := hE.trans hE37
        replace hDd10 := hDd10.trans hE37
        have hN37 := hF37.is
        refine ⟨hDd10, ?_⟩
        have hA_3 := hA.ext hDd10
        have hB1_3 := hB1.ext hDd10
        have hF16_3 := hF16.ext hDd10
        have hN16_3 := hN16.ext hDd10
        have hF21_3 := hF21.ext hDd10
        have hN21_3 := hN21.ext hDd10
        have hB6_3 := hB6.ext hDd10
        refine PW_m rfl rfl (ev_call rfl (eqNetwork_spec _ _ A _ hN21_3 hN37 (by omega))) ?_
        rintro _ w38 ⟨rfl, hE38⟩
        have hz38 := hE38.size
        replace hE := hE.trans hE38
        replace hDd10 := hDd10.trans hE38
        replace hF37 := hF37.ext hE38
        replace hN37 := hN37.ext hE38
        refine ⟨hDd10, ?_⟩
        refine PW_q rfl rfl (fun wq hq => ev_not rfl) ?_
        replace hA := hA.ext hDd10
        replace hB1 := hB1.ext hDd10
        replace hF16 := hF16.ext hDd10
        replace hN16 := hN16.ext hDd10
        replace hF21 := hF21.ext hDd10
        replace hN21 := hN21.ext hDd10
        replace hB6 := hB6.ext hDd10
        refine PW_nil ?_
        refine thenE_n ?_
        refine W_cond rfl (fun hg39 => ?_) (fun hg39 => ?_)
        · have hg38 := not_true hg39
          refine W_seq ?_
          refine W_region ?_
          refine WL_q rfl (ev_assign rfl) ?_
          refine WL_nil ?_
          refine thenE_n ?_
          refine W_ret ?_
          refine thenE_r ?_
          refine ret1 rfl rfl ?_
          first | (exact ⟨rfl, hE⟩) | (exact (bneE hg38 (hr24.det1 hr17)).elim) | (exact absurd (hr24.det1 hr17) hp38) | (exact absurd (hr24.det1 hr17) (of_decide_eq_false hg38)) | (exact (bneE hg38 (hr24.det2 hr17)).elim) | (exact absurd (hr24.det2 hr17) hp38) | (exact absurd (hr24.det2 hr17) (of_decide_eq_false hg38)) | (exact (bneE hg38 (hr24.det3 hr17)).elim) | (exact absurd (hr24.det3 hr17) hp38) | (exact absurd (hr24.det3 hr17) (of_decide_eq_false hg38)) | (exact (tfX hg38).elim) | (exact (decF hg38).elim) | (exfalso; omega)
        · have hg38 := not_false hg39
          refine W_skip ?_
          refine thenE_n ?_
          refine W_seq ?_
          refine W_region ?_
          refine WL_q rfl (ev_assign rfl) ?_
          refine WL_nil ?_
          refine thenE_n ?_
          refine W_ret ?_
          refine ret1 rfl rfl ?_
          first | (exact ⟨rfl, hE⟩) | (exact (bneE hg38 (hr24.det1 hr17)).elim) | (exact absurd (hr24.det1 hr17) hp38) | (exact absurd (hr24.det1 hr17) (of_decide_eq_false hg38)) | (exact (bneE hg38 (hr24.det2 hr17)).elim) | (exact absurd (hr24.det2 hr17) hp38) | (exact absurd (hr24.det2 hr17) (of_decide_eq_false hg38)) | (exact (bneE hg38 (hr24.det3 hr17)).elim) | (exact absurd (hr24.det3 hr17) hp38) | (exact absurd (hr24.det3 hr17) (of_decide_eq_false hg38)) | (exact (tfX hg38).elim) | (exact (decF hg38).elim) | (exfalso; omega)

set_option maxRecDepth 100000 in
theorem ecc_spec {loA hiA : Nat} (nA : NA) (A : Net) (w : World) (hA : IsNet loA hiA w nA A) (hhiA : hiA ≤ w.heap.size) (hnA : totN A ≤ 1048576) (hk : EndsOk A.ends) :
    Fn Try.prog 88 #[netV nA A] w (fun r w' => ∃ a' c', r = .slice a' (eccL A).length c' ∧ Own w.heap.size w' 3 1 a' (eccL A).length c' ((eccL A).map VI) ∧ Ext w w') := by
  have hqA := totL_len A.ends
  have hmA : totL A.ends + A.ids.length + A.inputs.length ≤ 1048576 := hnA
  have hel := eccL_len A
  have hE := Ext.refl w
  refine Fn_of Try.func88 rfl rfl (by kernel_rfl) rfl ?_
  refine W_seq ?_
  refine W_region ?_
  refine WL_m rfl (ev_box rfl) ?_
  rintro _ w1 ⟨rfl, hN1⟩
  have hz1 := hN1.size
  replace hE := hE.trans hN1.ext
  replace hA := hA.ext hN1.ext
  have hB1 : Blk w1 _ _ [_, _, _] := hN1.blk
  refine WL_q rfl (ev_assign rfl) ?_
  refine WL_nil ?_
  refine thenE_n ?_
  refine W_seq ?_
  refine W_region ?_
  refine WL_q rfl (ev_assign rfl) ?_
  refine WL_nil ?_
  refine thenE_n ?_
  refine W_seq ?_
  refine W_seq ?_
  refine W_region ?_
  refine WL_q rfl (ev_fieldAddr fo41_0 rfl) ?_
  refine WL_q rfl (ev_load one39 rfl (hB1.cell rfl)) ?_
  refine WL_q rfl (ev_len Try.underlying39 rfl) ?_
  refine WL_q rfl (ev_move rfl) ?_
  refine WL_nil ?_
  refine thenE_n ?_
  refine W_block ?_
  refine W_loopC (G := Nat × Option Addr × Nat) [(1, _), (7, _)] ((Subs.c rfl (Subs.c rfl Subs.n))) (fun ⟨i, a, c⟩ => [(3, .slice a i c), (8, VI (i : Int))]) (fun ⟨i, a, c⟩ w' => Ext w1 w' ∧ i ≤ A.ends.length ∧ OwnH w1.heap.size w'.heap.size 0 0 w' 3 1 a i c (((eccL A).take i).map VI)) (fun g => A.ends.length - g.1) (0, none, 0) ((Subs.c rfl (Subs.c (lkI rfl (by omega)) Subs.n))) (⟨Ext.refl _, ⟨by omega, OwnH.nil⟩⟩) ?_
  rintro ⟨i, a, c⟩ wL0 ⟨hRL0, hi', hO⟩
  have hzL0 := hRL0.size
  replace hE := hE.trans hRL0
  replace hA := hA.ext hRL0
  replace hB1 := hB1.ext hRL0
  refine W_seq ?_
  refine W_region ?_
  refine WL_q rfl (ev_lss rfl rfl) ?_
  refine WL_nil ?_
  refine thenE_n ?_
  refine W_seq ?_
  refine W_cond rfl (fun hg9 => ?_) (fun hg9 => ?_)
  · have hp9 := of_decide_eq_true hg9
    refine W_skip ?_
    refine thenE_n ?_
    refine W_seq ?_
    refine W_block ?_
    refine W_seq ?_
    refine W_region ?_
    refine WL_q rfl (ev_move rfl) ?_
    refine WL_q rfl (ev_assign rfl) ?_
    refine WL_nil ?_
    refine thenE_n ?_
    refine W_region ?_
    refine WL_q rfl (ev_move rfl) ?_
    refine WL_q rfl (ev_loads st41 sz41 rfl (cellsB hB1) rfl) ?_
    refine WL_q rfl (ev_move rfl) ?_
    refine WL_m rfl (ev_call rfl (dist_spec _ A _ _ hA (by omega) (by omega) (by assumption) (by omega))) ?_
    rintro _ w14 ⟨a14, c14, rfl, hO14, hE14⟩
    have hz14 := hE14.size
    replace hE := hE.trans hE14
    replace hRL0 := hRL0.trans hE14
    replace hA := hA.ext hE14
    replace hB1 := hB1.ext hE14
    replace hO := hO.ext hE14
    have hl0 := bfs_len hk (v := (i : Int)) (by omega) (by omega)
    refine WL_m rfl (ev_call rfl (Max_len hl0 (own_i hO14) (by omega) (by omega))) ?_
    rintro _ w15 ⟨rfl, hE15⟩
    have hz15 := hE15.size
    replace hE := hE.trans hE15
    replace hRL0 := hRL0.trans hE15
    replace hA := hA.ext hE15
    replace hB1 := hB1.ext hE15
    replace hO := hO.ext hE15
    replace hO14 := hO14.ext hE15
    refine WL_m rfl (ev_lit1 Try.underlying23 el3 (by decide) (by decide) rfl rfl) ?_
    rintro _ w16 ⟨rfl, hN16⟩
    have hz16 := hN16.size
    replace hE := hE.trans hN16.ext
    replace hRL0 := hRL0.trans hN16.ext
    replace hA := hA.ext hN16.ext
    replace hB1 := hB1.ext hN16.ext
    replace hO := hO.ext hN16.ext
    replace hO14 := hO14.ext hN16.ext
    have hB16 := hN16.blk
    refine WL_m rfl (ev_appendT Try.underlying23 el3 rfl (by decide) rfl rfl hO (SAt.of_blk (cs := [_]) (ds := []) hB16) rfl (by simp [Value.oneCell']) (by omega) (by unfold maxLen; omega) (by omega)) ?_
    rintro _ w17 ⟨a17, c17, rfl, hO17, hK17, hQ17⟩
    have hz17 := hK17.size
    replace hE := hE.rg hK17 (by omega)
    replace hRL0 := hRL0.rg hK17 (by omega)
    replace hA := hA.rg hK17 (by omega)
    replace hB1 := hB1.rg hK17 (by omega)
    replace hO14 := hO14.rg hK17 (by omega)
    replace hB16 := hB16.rg hK17 (by omega)
    replace hO := hO17
    replace hO := ownt_snocI hO
    refine WL_q rfl (ev_assign rfl) ?_
    refine WL_nil ?_
    refine blockE_n ?_
    refine thenE_n ?_
    refine W_region ?_
    refine WL_q rfl (ev_add rfl rfl (by omega)) ?_
    refine WL_q rfl (ev_move rfl) ?_
    refine WL_nil ?_
    refine thenE_n ?_
    exact ⟨(i + 1, a17, c17), (Subs.c rfl (Subs.c rfl Subs.n)), (Subs.c rfl (Subs.c (lkI rfl (by omega)) Subs.n)), ⟨hRL0, ⟨by omega, (ownt_take hO (by omega) (by simp [eccL])).up (Nat.le_refl _) (by omega)⟩⟩, by first | omega | (dsimp only; omega)⟩
  · have hp9 := of_decide_eq_false hg9
    refine W_exit ?_
    refine thenE_x ?_
    refine thenE_x ?_
    refine blockE_hit ?_
    refine thenE_n ?_
    refine W_seq ?_
    refine W_region ?_
    refine WL_q rfl (ev_move rfl) ?_
    refine WL_q rfl (ev_assign rfl) ?_
    refine WL_nil ?_
    refine thenE_n ?_
    refine W_ret ?_
    refine ret1 rfl rfl ?_
    have hi9 : i = (eccL A).length := by omega
    subst hi9
    exact ⟨_, _, rfl, by rw [List.take_length] at hO; exact hO.1.mono (by omega), hE⟩

set_option maxRecDepth 100000 in
theorem meDiameter_spec {loA hiA : Nat} (nA : NA) (A : Net) (w : World) (hA : IsNet loA hiA w nA A) (hhiA : hiA ≤ w.heap.size) (hnA : totN A ≤ 1048576) (hk : EndsOk A.ends) :
    Fn Try.prog 86 #[netV nA A] w (fun v w' => v = VI (mmax (eccM A)) ∧ Ext w w') := by
  have hqA := totL_len A.ends
  have hmA : totL A.ends + A.ids.length + A.inputs.length ≤ 1048576 := hnA
  have hel := eccM_len A
  have hE := Ext.refl w
  refine Fn_of Try.func86 rfl rfl (by kernel_rfl) rfl ?_
  refine W_seq ?_
  refine W_region ?_
  refine WL_m rfl (ev_box rfl) ?_
  rintro _ w1 ⟨rfl, hN1⟩
  have hz1 := hN1.size
  replace hE := hE.trans hN1.ext
  replace hA := hA.ext hN1.ext
  have hB1 : Blk w1 _ _ [_, _, _] := hN1.blk
  refine WL_q rfl (ev_assign rfl) ?_
  refine WL_nil ?_
  refine thenE_n ?_
  refine W_seq ?_
  refine W_region ?_
  refine WL_q rfl (ev_assign rfl) ?_
  refine WL_nil ?_
  refine thenE_n ?_
  refine W_seq ?_
  refine W_seq ?_
  refine W_region ?_
  refine WL_q rfl (ev_fieldAddr fo41_0 rfl) ?_
  refine WL_q rfl (ev_load one39 rfl (hB1.cell rfl)) ?_
  refine WL_q rfl (ev_len Try.underlying39 rfl) ?_
  refine WL_q rfl (ev_move rfl) ?_
  refine WL_nil ?_
  refine thenE_n ?_
  refine W_block ?_
  refine W_loopC (G := Nat) [(1, _), (7, _)] ((Subs.c rfl (Subs.c rfl Subs.n))) (fun i => [(3, VI (mmax ((eccM A).take i))), (8, VI (i : Int))]) (fun i w' => Ext w1 w' ∧ i ≤ A.ends.length) (fun i => A.ends.length - i) 0 ((Subs.c rfl (Subs.c (lkI rfl (by omega)) Subs.n))) (⟨Ext.refl _, by omega⟩) ?_
  rintro i wL0 ⟨hRL0, hi'⟩
  have hzL0 := hRL0.size
  replace hE := hE.trans hRL0
  replace hA := hA.ext hRL0
  replace hB1 := hB1.ext hRL0
  refine W_seq ?_
  refine W_region ?_
  refine WL_q rfl (ev_lss rfl rfl) ?_
  refine WL_nil ?_
  refine thenE_n ?_
  refine W_seq ?_
  refine W_cond rfl (fun hg9 => ?_) (fun hg9 => ?_)
  · have hp9 := of_decide_eq_true hg9
    refine W_skip ?_
    refine thenE_n ?_
    refine W_seq ?_
    refine W_block ?_
    refine W_seq ?_
    refine W_region ?_
    refine WL_q rfl (ev_move rfl) ?_
    refine WL_q rfl (ev_assign rfl) ?_
    refine WL_nil ?_
    refine thenE_n ?_
    refine W_region ?_
    refine WL_q rfl (ev_move rfl) ?_
    refine WL_q rfl (ev_loads st41 sz41 rfl (cellsB hB1) rfl) ?_
    refine WL_q rfl (ev_move rfl) ?_
    refine WL_m rfl (ev_call rfl (meFrom_spec _ A _ _ hA (by omega) (by omega) (by assumption) (by omega))) ?_
    rintro _ w14 ⟨a14, c14, rfl, hO14, hE14⟩
    have hz14 := hE14.size
    replace hE := hE.trans hE14
    replace hRL0 := hRL0.trans hE14
    replace hA := hA.ext hE14
    replace hB1 := hB1.ext hE14
    have hl0 := bfs_len hk (v := (i : Int)) (by omega) (by omega)
    refine WL_m rfl (ev_call rfl (meMost_len hl0 (own_i hO14) (by omega))) ?_
    rintro _ w15 ⟨rfl, hE15⟩
    have hz15 := hE15.size
    replace hE := hE.trans hE15
    replace hRL0 := hRL0.trans hE15
    replace hA := hA.ext hE15
    replace hB1 := hB1.ext hE15
    replace hO14 := hO14.ext hE15
    refine WL_m rfl (ev_call rfl (l1Most_spec _ _ _)) ?_
    rintro _ w16 ⟨rfl, hE16⟩
    have hz16 := hE16.size
    replace hE := hE.trans hE16
    replace hRL0 := hRL0.trans hE16
    replace hA := hA.ext hE16
    replace hB1 := hB1.ext hE16
    replace hO14 := hO14.ext hE16
    refine WL_q rfl (ev_assign rfl) ?_
    refine WL_nil ?_
    refine blockE_n ?_
    refine thenE_n ?_
    refine W_region ?_
    refine WL_q rfl (ev_add rfl rfl (by omega)) ?_
    refine WL_q rfl (ev_move rfl) ?_
    refine WL_nil ?_
    refine thenE_n ?_
    have hee : mmax (bfs A.ends (i : Int)) = (eccM A)[i] := by simp [eccM]
    exact ⟨i + 1, (Subs.c rfl (Subs.c rfl Subs.n)), (Subs.c (lkI rfl (by rw [hee]; exact mmax_take (by omega))) (Subs.c (lkI rfl (by omega)) Subs.n)), ⟨hRL0, by omega⟩, by first | omega | (dsimp only; omega)⟩
  · have hp9 := of_decide_eq_false hg9
    refine W_exit ?_
    refine thenE_x ?_
    refine thenE_x ?_
    refine blockE_hit ?_
    refine thenE_n ?_
    refine W_seq ?_
    refine W_region ?_
    refine WL_q rfl (ev_move rfl) ?_
    refine WL_q rfl (ev_assign rfl) ?_
    refine WL_nil ?_
    refine thenE_n ?_
    refine W_ret ?_
    refine ret1 rfl rfl ?_
    have hi9 : i = (eccM A).length := by omega
    subst hi9
    exact ⟨vi (by rw [List.take_length]), hE⟩

set_option maxRecDepth 100000 in
theorem sDiameterOf_spec {loA hiA : Nat} (nA : NA) (A : Net) (w : World) (hA : IsNet loA hiA w nA A) (hhiA : hiA ≤ w.heap.size) (hnA : totN A ≤ 1048576) :
    Fn Try.prog 37 #[netV nA A] w (fun v w' => ∃ r q, v = .tuple #[VI r, VB q] ∧ RV 0 (opt (NOk A ∧ Conn A) (mmax (eccM A))) r q ∧ Ext w w') := by
  have hqA := totL_len A.ends
  have hmA : totL A.ends + A.ids.length + A.inputs.length ≤ 1048576 := hnA
  have hE := Ext.refl w
  refine Fn_of Try.func37 rfl rfl (by kernel_rfl) rfl ?_
  refine W_seq ?_
  refine W_region ?_
  refine WL_m rfl (ev_box rfl) ?_
  rintro _ w1 ⟨rfl, hN1⟩
  have hz1 := hN1.size
  replace hE := hE.trans hN1.ext
  replace hA := hA.ext hN1.ext
  have hB1 : Blk w1 _ _ [_, _, _] := hN1.blk
  refine WL_q rfl (ev_assign rfl) ?_
  refine WL_q rfl (ev_assign rfl) ?_
  refine WL_nil ?_
  refine thenE_n ?_
  refine W_seq ?_
  refine W_seq ?_
  refine W_region ?_
  refine WL_q rfl (ev_loads st41 sz41 rfl (cellsB hB1) rfl) ?_
  refine WL_m rfl (ev_call rfl (neGood_spec _ A _ hA (by omega) (by omega))) ?_
  rintro _ w5 ⟨b5, rfl, hb5, hE5⟩
  have hz5 := hE5.size
  replace hE := hE.trans hE5
  replace hA := hA.ext hE5
  replace hB1 := hB1.ext hE5
  refine WL_q rfl (ev_not rfl) ?_
  refine WL_q rfl (ev_move rfl) ?_
  refine WL_splitv (t := 7) rfl (fun hg6 => ?_) (fun hg6 => ?_)
  · have hg5 := not_true hg6
    have hp5 := ttN hb5 hg5
    refine WL_no rfl rfl hg6 rfl ?_
    refine WL_no rfl rfl hg6 rfl ?_
    refine WL_no rfl rfl hg6 rfl ?_
    refine WL_q rfl (ev_pick_t rfl hg6 rfl) ?_
    refine WL_nil ?_
    refine thenE_n ?_
    refine W_cond_t rfl ?_
    refine W_seq ?_
    refine W_region ?_
    refine WL_q rfl (ev_assign rfl) ?_
    refine WL_q rfl (ev_assign rfl) ?_
    refine WL_nil ?_
    refine thenE_n ?_
    refine W_ret ?_
    refine thenE_r ?_
    refine ret2 rfl rfl rfl ?_
    first | (exact ⟨_, _, rfl, .no fun h => hp5 h.1, hE⟩) | (exact ⟨_, _, rfl, .no fun h => hp9 h.2, hE⟩) | (exact ⟨_, _, rfl, .yes ⟨hp5, hp9⟩ rfl, hE⟩)
  · have hg5 := not_false hg6
    have hp5 := hb5.1 hg5
    have hk := hp5.endsOk
    have hnd := hp5.nodes
    refine WL_qg rfl rfl hg6 rfl (ev_loads st41 sz41 rfl (cellsB hB1) rfl) ?_
    refine WL_mg rfl rfl hg6 rfl (ev_call rfl (meConnected_spec _ A _ hA (by omega) (by omega) (by assumption) (by omega) (by omega))) ?_
    rintro _ w9 ⟨b9, rfl, hb9, hE9⟩
    have hz9 := hE9.size
    replace hE := hE.trans hE9
    replace hA := hA.ext hE9
    replace hB1 := hB1.ext hE9
    refine WL_qg rfl rfl hg6 rfl (ev_not rfl) ?_
    refine WL_q rfl (ev_pick_f rfl hg6 rfl) ?_
    refine WL_nil ?_
    refine thenE_n ?_
    refine W_cond rfl (fun hg10 => ?_) (fun hg10 => ?_)
    · have hg9 := not_true hg10
      have hp9 := ttN hb9 hg9
      refine W_seq ?_
      refine W_region ?_
      refine WL_q rfl (ev_assign rfl) ?_
      refine WL_q rfl (ev_assign rfl) ?_
      refine WL_nil ?_
      refine thenE_n ?_
      refine W_ret ?_
      refine thenE_r ?_
      refine ret2 rfl rfl rfl ?_
      first | (exact ⟨_, _, rfl, .no fun h => hp5 h.1, hE⟩) | (exact ⟨_, _, rfl, .no fun h => hp9 h.2, hE⟩) | (exact ⟨_, _, rfl, .yes ⟨hp5, hp9⟩ rfl, hE⟩)
    · have hg9 := not_false hg10
      have hp9 := hb9.1 hg9
      refine W_skip ?_
      refine thenE_n ?_
      refine W_seq ?_
      refine W_region ?_
      refine WL_q rfl (ev_loads st41 sz41 rfl (cellsB hB1) rfl) ?_
      refine WL_m rfl (ev_call rfl (meDiameter_spec _ A _ hA (by omega) (by omega) (by assumption))) ?_
      rintro _ w13 ⟨rfl, hE13⟩
      have hz13 := hE13.size
      replace hE := hE.trans hE13
      replace hA := hA.ext hE13
      replace hB1 := hB1.ext hE13
      refine WL_q rfl (ev_assign rfl) ?_
      refine WL_q rfl (ev_assign rfl) ?_
      refine WL_nil ?_
      refine thenE_n ?_
      refine W_ret ?_
      refine ret2 rfl rfl rfl ?_
      first | (exact ⟨_, _, rfl, .no fun h => hp5 h.1, hE⟩) | (exact ⟨_, _, rfl, .no fun h => hp9 h.2, hE⟩) | (exact ⟨_, _, rfl, .yes ⟨hp5, hp9⟩ rfl, hE⟩)

set_option maxRecDepth 100000 in
theorem DiameterOf_spec {loA hiA : Nat} (nA : NA) (A : Net) (w : World) (hA : IsNet loA hiA w nA A) (hhiA : hiA ≤ w.heap.size) (hnA : totN A ≤ 1048576) :
    Fn Try.prog 38 #[netV nA A] w (fun v w' => ∃ r q, v = .tuple #[VI r, VB q] ∧ RV 0 (opt (NOk A ∧ Conn A) (mmax (eccM A))) r q ∧ Ext w w') := by
  have hqA := totL_len A.ends
  have hmA : totL A.ends + A.ids.length + A.inputs.length ≤ 1048576 := hnA
  have hel := eccL_len A
  have hE := Ext.refl w
  refine Fn_of Try.func38 rfl rfl (by kernel_rfl) rfl ?_
  refine W_seq ?_
  refine W_region ?_
  refine WL_m rfl (ev_box rfl) ?_
  rintro _ w1 ⟨rfl, hN1⟩
  have hz1 := hN1.size
  replace hE := hE.trans hN1.ext
  replace hA := hA.ext hN1.ext
  have hB1 : Blk w1 _ _ [_, _, _] := hN1.blk
  refine WL_q rfl (ev_assign rfl) ?_
  refine WL_q rfl (ev_assign rfl) ?_
  refine WL_nil ?_
  refine thenE_n ?_
  refine W_seq ?_
  refine W_seq ?_
  refine W_region ?_
  refine WL_q rfl (ev_loads st41 sz41 rfl (cellsB hB1) rfl) ?_
  refine WL_m rfl (ev_call rfl (IsNetwork_spec _ A _ hA (by omega) (by omega))) ?_
  rintro _ w5 ⟨b5, rfl, hb5, hE5⟩
  have hz5 := hE5.size
  replace hE := hE.trans hE5
  replace hA := hA.ext hE5
  replace hB1 := hB1.ext hE5
  refine WL_q rfl (ev_not rfl) ?_
  refine WL_q rfl (ev_move rfl) ?_
  refine WL_splitv (t := 7) rfl (fun hg6 => ?_) (fun hg6 => ?_)
  · have hg5 := not_true hg6
    have hp5 := ttN hb5 hg5
    refine WL_no rfl rfl hg6 rfl ?_
    refine WL_no rfl rfl hg6 rfl ?_
    refine WL_no rfl rfl hg6 rfl ?_
    refine WL_q rfl (ev_pick_t rfl hg6 rfl) ?_
    refine WL_nil ?_
    refine thenE_n ?_
    refine W_cond_t rfl ?_
    refine W_seq ?_
    refine W_region ?_
    refine WL_q rfl (ev_assign rfl) ?_
    refine WL_q rfl (ev_assign rfl) ?_
    refine WL_nil ?_
    refine thenE_n ?_
    refine W_ret ?_
    refine thenE_r ?_
    refine ret2 rfl rfl rfl ?_
    first | (exact ⟨_, _, rfl, .no fun h => hp5 h.1, hE⟩) | (exact ⟨_, _, rfl, .no fun h => hp9 h.2, hE⟩) | (exact ⟨_, _, rfl, .yes ⟨hp5, hp9⟩ (diam_eq hk (by omega)), hE⟩)
  · have hg5 := not_false hg6
    have hp5 := hb5.1 hg5
    have hk := hp5.endsOk
    have hnd := hp5.nodes
    refine WL_qg rfl rfl hg6 rfl (ev_loads st41 sz41 rfl (cellsB hB1) rfl) ?_
    refine WL_mg rfl rfl hg6 rfl (ev_call rfl (isConnected_spec _ A _ hA (by omega) (by omega) (by assumption) (by omega))) ?_
    rintro _ w9 ⟨b9, rfl, hb9, hE9⟩
    have hz9 := hE9.size
    replace hE := hE.trans hE9
    replace hA := hA.ext hE9
    replace hB1 := hB1.ext hE9
    refine WL_qg rfl rfl hg6 rfl (ev_not rfl) ?_
    refine WL_q rfl (ev_pick_f rfl hg6 rfl) ?_
    refine WL_nil ?_
    refine thenE_n ?_
    refine W_cond rfl (fun hg10 => ?_) (fun hg10 => ?_)
    · have hg9 := not_true hg10
      have hp9 := ttN hb9 hg9
      refine W_seq ?_
      refine W_region ?_
      refine WL_q rfl (ev_assign rfl) ?_
      refine WL_q rfl (ev_assign rfl) ?_
      refine WL_nil ?_
      refine thenE_n ?_
      refine W_ret ?_
      refine thenE_r ?_
      refine ret2 rfl rfl rfl ?_
      first | (exact ⟨_, _, rfl, .no fun h => hp5 h.1, hE⟩) | (exact ⟨_, _, rfl, .no fun h => hp9 h.2, hE⟩) | (exact ⟨_, _, rfl, .yes ⟨hp5, hp9⟩ (diam_eq hk (by omega)), hE⟩)
    · have hg9 := not_false hg10
      have hp9 := hb9.1 hg9
      refine W_skip ?_
      refine thenE_n ?_
      refine W_seq ?_
      refine W_region ?_
      refine WL_q rfl (ev_loads st41 sz41 rfl (cellsB hB1) rfl) ?_
      refine WL_m rfl (ev_call rfl (ecc_spec _ A _ hA (by omega) (by omega) (by assumption))) ?_
      rintro _ w13 ⟨a13, c13, rfl, hO13, hE13⟩
      have hz13 := hE13.size
      replace hE := hE.trans hE13
      replace hA := hA.ext hE13
      replace hB1 := hB1.ext hE13
      refine WL_m rfl (ev_call rfl (Max_len rfl (own_i hO13) (by omega) (by omega))) ?_
      rintro _ w14 ⟨rfl, hE14⟩
      have hz14 := hE14.size
      replace hE := hE.trans hE14
      replace hA := hA.ext hE14
      replace hB1 := hB1.ext hE14
      replace hO13 := hO13.ext hE14
      refine WL_q rfl (ev_assign rfl) ?_
      refine WL_q rfl (ev_assign rfl) ?_
      refine WL_nil ?_
      refine thenE_n ?_
      refine W_ret ?_
      refine ret2 rfl rfl rfl ?_
      first | (exact ⟨_, _, rfl, .no fun h => hp5 h.1, hE⟩) | (exact ⟨_, _, rfl, .no fun h => hp9 h.2, hE⟩) | (exact ⟨_, _, rfl, .yes ⟨hp5, hp9⟩ (diam_eq hk (by omega)), hE⟩)

set_option maxRecDepth 100000 in
theorem law_DiameterOf (nA : NA) (A : Net) (w : World) (hA : IsNet 0 w.heap.size w nA A) (hsA : SmN A) :
    Fn Try.prog 10 #[netV nA A] w (fun v w' => v = VB true ∧ Ext w w') := by
  have hE := Ext.refl w
  refine Fn_of Try.func10 rfl rfl (by kernel_rfl) rfl ?_
  refine W_seq ?_
  refine W_region ?_
  refine WL_m rfl (ev_box rfl) ?_
  rintro _ w1 ⟨rfl, hN1⟩
  have hz1 := hN1.size
  replace hE := hE.trans hN1.ext
  replace hA := hA.ext hN1.ext
  have hB1 : Blk w1 _ _ [_, _, _] := hN1.blk
  refine WL_q rfl (ev_assign rfl) ?_
  refine WL_nil ?_
  refine thenE_n ?_
  refine W_seq ?_
  refine W_region ?_
  refine WL_q rfl (ev_assign rfl) ?_
  refine WL_nil ?_
  refine thenE_n ?_
  refine W_seq ?_
  refine W_region ?_
  refine WL_q rfl (ev_loads st35 sz35 rfl (cellsB hB1) rfl) ?_
  refine WL_q rfl (ev_move rfl) ?_
  refine WL_m rfl (ev_call rfl (szNetwork_spec _ A _ _ hA (by omega) hsA)) ?_
  rintro _ w11 ⟨r11, rfl, hE11, hr11⟩
  have hz11 := hE11.size
  replace hE := hE.trans hE11
  replace hA := hA.ext hE11
  replace hB1 := hB1.ext hE11
  refine WL_q rfl (ev_assign rfl) ?_
  refine WL_nil ?_
  refine thenE_n ?_
  refine W_seq ?_
  refine W_seq ?_
  refine W_region ?_
  refine WL_q rfl (ev_move rfl) ?_
  refine WL_q rfl (ev_lss rfl rfl) ?_
  refine WL_nil ?_
  refine thenE_n ?_
  refine W_cond rfl (fun hg13 => ?_) (fun hg13 => ?_)
  · have hp13 := of_decide_eq_true hg13
    refine W_seq ?_
    refine W_region ?_
    refine WL_q rfl (ev_assign rfl) ?_
    refine WL_nil ?_
    refine thenE_n ?_
    refine W_ret ?_
    refine thenE_r ?_
    refine ret1 rfl rfl ?_
    first | (exact ⟨rfl, hE⟩) | (exact (tfX hg13).elim) | (exact (decF hg13).elim) | (exfalso; omega)
  · have hp13 := of_decide_eq_false hg13
    refine W_skip ?_
    refine thenE_n ?_
    refine W_seq ?_
    refine W_region ?_
    refine WL_q rfl (ev_loads st35 sz35 rfl (cellsB hB1) rfl) ?_
    refine WL_m rfl (ev_call rfl (toNetwork_spec _ A _ hA (by omega) (by omega))) ?_
    rintro _ w16 ⟨h16, rfl, hF16, hE16⟩
    have hz16 := hE16.size
    replace hE := hE.trans hE16
    replace hA := hA.ext hE16
    replace hB1 := hB1.ext hE16
    have hN16 := hF16.is
    refine WL_m rfl (ev_call rfl (sDiameterOf_spec _ A _ hN16 (by omega) (by omega))) ?_
    rintro _ w17 ⟨r17, q17, rfl, hr17, hE17⟩
    have hz17 := hE17.size
    replace hE := hE.trans hE17
    replace hA := hA.ext hE17
    replace hB1 := hB1.ext hE17
    replace hF16 := hF16.ext hE17
    replace hN16 := hN16.ext hE17
    refine WL_q rfl (ev_move rfl) ?_
    refine WL_q rfl (ev_extract rfl rfl) ?_
    refine WL_q rfl (ev_extract rfl rfl) ?_
    refine WL_q rfl (ev_assign rfl) ?_
    refine WL_q rfl (ev_assign rfl) ?_
    refine WL_nil ?_
    refine thenE_n ?_
    refine W_seq ?_
    refine W_region ?_
    refine WL_q rfl (ev_loads st35 sz35 rfl (cellsB hB1) rfl) ?_
    refine WL_m rfl (ev_call rfl (toNetwork_spec _ A _ hA (by omega) (by omega))) ?_
    rintro _ w21 ⟨h21, rfl, hF21, hE21⟩
    have hz21 := hE21.size
    replace hE := hE.trans hE21
    replace hA := hA.ext hE21
    replace hB1 := hB1.ext hE21
    replace hF16 := hF16.ext hE21
    replace hN16 := hN16.ext hE21
    have hN21 := hF21.is
    refine WL_m rfl (ev_alloc zr41) ?_
    rintro _ w6 ⟨rfl, hN6⟩
    have hz6 := hN6.size
    replace hE := hE.trans hN6.ext
    replace hA := hA.ext hN6.ext
    replace hB1 := hB1.ext hN6.ext
    replace hF16 := hF16.ext hN6.ext
    replace hN16 := hN16.ext hN6.ext
    replace hF21 := hF21.ext hN6.ext
    replace hN21 := hN21.ext hN6.ext
    have hB6 : Blk w6 _ _ [_, _, _] := hN6.blk
    refine WL_s (ev_stores sz41 rfl rfl rfl (by simp [Value.oneCell']) hB6 (by simp)) ?_
    rintro _ w6_3 hS6_3
    have hz6_3 := hS6_3.size
    replace hE := hE.sto hS6_3 (by omega)
    replace hA := hA.sto hS6_3 (by omega)
    replace hB1 := hB1.sto hS6_3 (by omega)
    replace hF16 := hF16.sto hS6_3 (by omega)
    replace hN16 := hN16.sto hS6_3 (by omega)
    replace hF21 := hF21.sto hS6_3 (by omega)
    replace hN21 := hN21.sto hS6_3 (by omega)
    replace hB6 : Blk w6_3 _ _ [_, _, _] := hS6_3.blk
    refine WL_nil ?_
    refine thenE_n ?_
    refine W_seq ?_
    refine W_region ?_
    refine WL_q rfl (ev_loads st41 sz41 rfl (cellsB hB6) rfl) ?_
    refine WL_m rfl (ev_call rfl (DiameterOf_spec _ A _ hN21 (by omega) (by omega))) ?_
    rintro _ w24 ⟨r24, q24, rfl, hr24, hE24⟩
    have hz24 := hE24.size
    replace hE := hE.trans hE24
    replace hA := hA.ext hE24
    replace hB1 := hB1.ext hE24
    replace hF16 := hF16.ext hE24
    replace hN16 := hN16.ext hE24
    replace hF21 := hF21.ext hE24
    replace hN21 := hN21.ext hE24
    replace hB6 := hB6.ext hE24
    refine WL_q rfl (ev_move rfl) ?_
    refine WL_q rfl (ev_extract rfl rfl) ?_
    refine WL_q rfl (ev_extract rfl rfl) ?_
    refine WL_q rfl (ev_assign rfl) ?_
    refine WL_q rfl (ev_assign rfl) ?_
    refine WL_nil ?_
    refine thenE_n ?_
    refine W_seq ?_
    refine W_seq ?_
    refine W_region ?_
    refine WL_q rfl (ev_move rfl) ?_
    refine WL_q rfl (ev_move rfl) ?_
    refine WL_q rfl (ev_neq rfl rfl) ?_
    refine WL_q rfl (ev_move rfl) ?_
    refine WL_splitv (t := 30) rfl (fun hg29 => ?_) (fun hg29 => ?_)
    · have hp29 := of_decide_eq_true hg29
      refine WL_no rfl rfl hg29 rfl ?_
      refine WL_no rfl rfl hg29 rfl ?_
      refine WL_no rfl rfl hg29 rfl ?_
      refine WL_q rfl (ev_pick_t rfl hg29 rfl) ?_
      refine WL_nil ?_
      refine thenE_n ?_
      refine W_cond_t rfl ?_
      refine W_seq ?_
      refine W_region ?_
      refine WL_q rfl (ev_assign rfl) ?_
      refine WL_nil ?_
      refine thenE_n ?_
      refine W_ret ?_
      refine thenE_r ?_
      refine ret1 rfl rfl ?_
      first | (exact ⟨rfl, hE⟩) | (exact (bneE hg29 (hr24.det1 hr17)).elim) | (exact absurd (hr24.det1 hr17) hp29) | (exact absurd (hr24.det1 hr17) (of_decide_eq_false hg29)) | (exact (bneE hg29 (hr24.det2 hr17)).elim) | (exact absurd (hr24.det2 hr17) hp29) | (exact absurd (hr24.det2 hr17) (of_decide_eq_false hg29)) | (exact (bneE hg29 (hr24.det3 hr17)).elim) | (exact absurd (hr24.det3 hr17) hp29) | (exact absurd (hr24.det3 hr17) (of_decide_eq_false hg29)) | (exact (tfX hg29).elim) | (exact (decF hg29).elim) | (exfalso; omega)
    · have hp29 := of_decide_eq_false hg29
      refine WL_qg rfl rfl hg29 rfl (ev_move rfl) ?_
      refine WL_qg rfl rfl hg29 rfl (ev_move rfl) ?_
      refine WL_qg rfl rfl hg29 rfl (ev_neq_b Try.underlying4 rfl rfl) ?_
      refine WL_q rfl (ev_pick_f rfl hg29 rfl) ?_
      refine WL_nil ?_
      refine thenE_n ?_
      refine W_cond rfl (fun hg33 => ?_) (fun hg33 => ?_)
      · refine W_seq ?_
        refine W_region ?_
        refine WL_q rfl (ev_assign rfl) ?_
        refine WL_nil ?_
        refine thenE_n ?_
        refine W_ret ?_
        refine thenE_r ?_
        refine ret1 rfl rfl ?_
        first | (exact ⟨rfl, hE⟩) | (exact (bneE hg33 (hr24.det1 hr17)).elim) | (exact absurd (hr24.det1 hr17) hp33) | (exact absurd (hr24.det1 hr17) (of_decide_eq_false hg33)) | (exact (bneE hg33 (hr24.det2 hr17)).elim) | (exact absurd (hr24.det2 hr17) hp33) | (exact absurd (hr24.det2 hr17) (of_decide_eq_false hg33)) | (exact (bneE hg33 (hr24.det3 hr17)).elim) | (exact absurd (hr24.det3 hr17) hp33) | (exact absurd (hr24.det3 hr17) (of_decide_eq_false hg33)) | (exact (tfX hg33).elim) | (exact (decF hg33).elim) | (exfalso; omega)
      · refine W_skip ?_
        refine thenE_n ?_
        refine W_seq ?_
        refine W_seq ?_
        refine W_drawE [(0, true), (1, true), (2, false), (3, false), (4, true)] mixed (by kernel_rfl) rfl (by kernel_rfl) ?_
        intro wd10 hEd10 hzd10
        replace hE := hE.trans hEd10
        replace hA := hA.ext hEd10
        replace hB1 := hB1.ext hEd10
        replace hF16 := hF16.ext hEd10
        replace hN16 := hN16.ext hEd10
        replace hF21 := hF21.ext hEd10
        replace hN21 := hN21.ext hEd10
        replace hB6 := hB6.ext hEd10
        have hDd10 := Ext.refl wd10
        refine PW_q rfl rfl (fun wq hq => ev_loads st41 sz41 rfl (cellsB (hq.blk hB6)) rfl) ?_
        refine PW_q rfl rfl (fun wq hq => ev_loads st35 sz35 rfl (cellsB (hq.blk hB1)) rfl) ?_
        refine PW_m rfl rfl (ev_call rfl (toNetwork_spec _ A _ hA (by omega) (by omega))) ?_
        rintro _ w37 ⟨h37, rfl, hF37, hE37⟩
        have hz37 := hE37.size
        replace hE := hE.trans hE37
        replace hDd10 := hDd10.trans hE37
        have hN37 := hF37.is
        refine ⟨hDd10, ?_⟩
        have hA_3 := hA.ext hDd10
        have hB1_3 := hB1.ext hDd10
        have hF16_3 := hF16.ext hDd10
        have hN16_3 := hN16.ext hDd10
        have hF21_3 := hF21.ext hDd10
        have hN21_3 := hN21.ext hDd10
        have hB6_3 := hB6.ext hDd10
        refine PW_m rfl rfl (ev_call rfl (eqNetwork_spec _ _ A _ hN21_3 hN37 (by omega))) ?_
        rintro _ w38 ⟨rfl, hE38⟩
        have hz38 := hE38.size
        replace hE := hE.trans hE38
        replace hDd10 := hDd10.trans hE38
        replace hF37 := hF37.ext hE38
        replace hN37 := hN37.ext hE38
        refine ⟨hDd10, ?_⟩
        refine PW_q rfl rfl (fun wq hq => ev_not rfl) ?_
        replace hA := hA.ext hDd10
        replace hB1 := hB1.ext hDd10
        replace hF16 := hF16.ext hDd10
        replace hN16 := hN16.ext hDd10
        replace hF21 := hF21.ext hDd10
        replace hN21 := hN21.ext hDd10
        replace hB6 := hB6.ext hDd10
        refine PW_nil ?_
        refine thenE_n ?_
        refine W_cond rfl (fun hg39 => ?_) (fun hg39 => ?_)
        · have hg38 := not_true hg39
          refine W_seq ?_
          refine W_region ?_
          refine WL_q rfl (ev_assign rfl) ?_
          refine WL_nil ?_
          refine thenE_n ?_
          refine W_ret ?_
          refine thenE_r ?_
          refine ret1 rfl rfl ?_
          first | (exact ⟨rfl, hE⟩) | (exact (bneE hg38 (hr24.det1 hr17)).elim) | (exact absurd (hr24.det1 hr17) hp38) | (exact absurd (hr24.det1 hr17) (of_decide_eq_false hg38)) | (exact (bneE hg38 (hr24.det2 hr17)).elim) | (exact absurd (hr24.det2 hr17) hp38) | (exact absurd (hr24.det2 hr17) (of_decide_eq_false hg38)) | (exact (bneE hg38 (hr24.det3 hr17)).elim) | (exact absurd (hr24.det3 hr17) hp38) | (exact absurd (hr24.det3 hr17) (of_decide_eq_false hg38)) | (exact (tfX hg38).elim) | (exact (decF hg38).elim) | (exfalso; omega)
        · have hg38 := not_false hg39
          refine W_skip ?_
          refine thenE_n ?_
          refine W_seq ?_
          refine W_region ?_
          refine WL_q rfl (ev_assign rfl) ?_
          refine WL_nil ?_
          refine thenE_n ?_
          refine W_ret ?_
          refine ret1 rfl rfl ?_
          first | (exact ⟨rfl, hE⟩) | (exact (bneE hg38 (hr24.det1 hr17)).elim) | (exact absurd (hr24.det1 hr17) hp38) | (exact absurd (hr24.det1 hr17) (of_decide_eq_false hg38)) | (exact (bneE hg38 (hr24.det2 hr17)).elim) | (exact absurd (hr24.det2 hr17) hp38) | (exact absurd (hr24.det2 hr17) (of_decide_eq_false hg38)) | (exact (bneE hg38 (hr24.det3 hr17)).elim) | (exact absurd (hr24.det3 hr17) hp38) | (exact absurd (hr24.det3 hr17) (of_decide_eq_false hg38)) | (exact (tfX hg38).elim) | (exact (decF hg38).elim) | (exfalso; omega)

end Go.Proofs.Ytiagmcjhpckcaaa
