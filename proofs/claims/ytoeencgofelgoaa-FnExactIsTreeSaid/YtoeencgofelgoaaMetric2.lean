/- Contracts of IsConnected and DiameterOf, of the program and of the reference; the walks of their laws. -/
import Derived.Test.YtoeencgofelgoaaMetric
namespace Go.Proofs.Ytoeencgofelgoaa
open Go Go.RowKit

/-- Every node can be reached from node 0. -/
def Conn (A : Net) : Prop := ∀ d ∈ bfs A.ends 0, 0 ≤ d
theorem conn_no {A : Net} (hk : EndsOk A.ends) (h0 : 0 < A.ends.length) : (!decide (-1 ∈ bfs A.ends 0)) = true ↔ Conn A := by
  have hr := bfs_rng hk (v := 0) (by omega) (by simpa using h0)
  rw [Bool.not_eq_true', decide_eq_false_iff_not]
  exact ⟨fun h d hd => by have := hr d hd; by_cases e : d = -1; exact absurd (e ▸ hd) h; omega, fun h hm => by have := h _ hm; omega⟩
theorem conn_all {A : Net} (hk : EndsOk A.ends) (h0 : 0 < A.ends.length) (h40 : A.ends.length ≤ 40) : allR (bfs A.ends 0) 0 40 = true ↔ Conn A := by
  have hr := bfs_rng hk (v := 0) (by omega) (by simpa using h0)
  rw [allR_true]
  exact ⟨fun h d hd => (h d hd).1, fun h d hd => ⟨h d hd, by have := hr d hd; omega⟩⟩
def eccL (A : Net) : List Int := (List.range A.ends.length).map fun (v : Nat) => lmax (bfs A.ends v)
def eccM (A : Net) : List Int := (List.range A.ends.length).map fun (v : Nat) => mmax (bfs A.ends v)
theorem eccL_len (A : Net) : (eccL A).length = A.ends.length := by simp [eccL]
theorem eccM_len (A : Net) : (eccM A).length = A.ends.length := by simp [eccM]
theorem bfs_ex {A : Net} (hk : EndsOk A.ends) {v : Nat} (hv : v < A.ends.length) : ∃ x ∈ bfs A.ends v, 0 ≤ x := by
  have hs := bfs_src hk (v := (v : Int)) (by omega) (by simpa using hv)
  have hl := bfs_len hk (v := (v : Int)) (by omega) (by simpa using hv)
  rw [getD_eq (by simp [hl, hv])] at hs
  exact ⟨_, List.getElem_mem _, by rw [hs]; omega⟩
theorem ecc_eq {A : Net} (hk : EndsOk A.ends) : eccL A = eccM A := by
  unfold eccL eccM
  refine List.map_congr_left fun v hv => ?_
  exact (mmax_eq (bfs_ex hk (List.mem_range.1 hv))).symm
theorem eccM_pos (A : Net) : ∀ x ∈ eccM A, 0 ≤ x := by
  intro x hx
  obtain ⟨v, _, rfl⟩ := List.mem_map.1 hx
  exact (foldl_max_ge _ 0).1
theorem diam_eq {A : Net} (hk : EndsOk A.ends) (h0 : 0 < A.ends.length) : lmax (eccL A) = mmax (eccM A) := by
  rw [ecc_eq hk, mmax_eq]
  have : 0 < (eccM A).length := by rw [eccM_len]; exact h0
  exact ⟨_, List.getElem_mem this, eccM_pos A _ (List.getElem_mem this)⟩

set_option maxRecDepth 100000 in
theorem isConnected_spec {loA hiA : Nat} (nA : NA) (A : Net) (w : World) (hA : IsNet loA hiA w nA A) (hhiA : hiA ≤ w.heap.size) (hnA : totN A ≤ 1048576) (hk : EndsOk A.ends) (h0 : 0 < A.ends.length) :
    Fn Try.prog 52 #[netV nA A] w (fun v w' => ∃ b, v = VB b ∧ (b = true ↔ Conn A) ∧ Ext w w') := by
  have hqA := totL_len A.ends
  have hmA : totL A.ends + A.ids.length + A.inputs.length ≤ 1048576 := hnA
  have hl0 := bfs_len hk (v := 0) (by omega) (by omega)
  have hE := Ext.refl w
  refine Fn_of Try.func52 rfl rfl (by kernel_rfl) rfl ?_
  refine W_seq ?_
  refine W_region ?_
  refine WL_m rfl (ev_box rfl) ?_
  rintro _ w1 ⟨rfl, hN1⟩
  have hz1 := hN1.size
  replace hE := hE.trans hN1.ext
  replace hA := hA.ext hN1.ext
  have hB1 : Blk w1 _ _ [_, _, _] := hN1.blk
  refine WL_q rfl (ev_assign rfl) ?_
  refine WL_nil ?_
  refine thenE_n ?_
  refine W_seq ?_
  refine W_region ?_
  refine WL_q rfl (ev_loads st31 sz31 rfl (cellsB hB1) rfl) ?_
  refine WL_m rfl (ev_call rfl (dist_spec _ A _ _ hA (by omega) (by omega) (by assumption) (by omega))) ?_
  rintro _ w4 ⟨a4, c4, rfl, hO4, hE4⟩
  have hz4 := hE4.size
  replace hE := hE.trans hE4
  replace hA := hA.ext hE4
  replace hB1 := hB1.ext hE4
  refine WL_m rfl (ev_call rfl (Contains_len hl0 (own_i hO4) (by omega))) ?_
  rintro _ w5 ⟨rfl, hE5⟩
  have hz5 := hE5.size
  replace hE := hE.trans hE5
  replace hA := hA.ext hE5
  replace hB1 := hB1.ext hE5
  replace hO4 := hO4.ext hE5
  refine WL_q rfl (ev_not rfl) ?_
  refine WL_q rfl (ev_assign rfl) ?_
  refine WL_nil ?_
  refine thenE_n ?_
  refine W_ret ?_
  refine ret1 rfl rfl ?_
  exact ⟨_, rfl, conn_no hk h0, hE⟩

set_option maxRecDepth 100000 in
theorem meConnected_spec {loA hiA : Nat} (nA : NA) (A : Net) (w : World) (hA : IsNet loA hiA w nA A) (hhiA : hiA ≤ w.heap.size) (hnA : totN A ≤ 1048576) (hk : EndsOk A.ends) (h0 : 0 < A.ends.length) (h40 : A.ends.length ≤ 40) :
    Fn Try.prog 80 #[netV nA A] w (fun v w' => ∃ b, v = VB b ∧ (b = true ↔ Conn A) ∧ Ext w w') := by
  have hqA := totL_len A.ends
  have hmA : totL A.ends + A.ids.length + A.inputs.length ≤ 1048576 := hnA
  have hl0 := bfs_len hk (v := 0) (by omega) (by omega)
  have hE := Ext.refl w
  refine Fn_of Try.func80 rfl rfl (by kernel_rfl) rfl ?_
  refine W_seq ?_
  refine W_region ?_
  refine WL_m rfl (ev_box rfl) ?_
  rintro _ w1 ⟨rfl, hN1⟩
  have hz1 := hN1.size
  replace hE := hE.trans hN1.ext
  replace hA := hA.ext hN1.ext
  have hB1 : Blk w1 _ _ [_, _, _] := hN1.blk
  refine WL_q rfl (ev_assign rfl) ?_
  refine WL_nil ?_
  refine thenE_n ?_
  refine W_seq ?_
  refine W_region ?_
  refine WL_q rfl (ev_loads st31 sz31 rfl (cellsB hB1) rfl) ?_
  refine WL_m rfl (ev_call rfl (meFrom_spec _ A _ _ hA (by omega) (by omega) (by assumption) (by omega))) ?_
  rintro _ w4 ⟨a4, c4, rfl, hO4, hE4⟩
  have hz4 := hE4.size
  replace hE := hE.trans hE4
  replace hA := hA.ext hE4
  replace hB1 := hB1.ext hE4
  refine WL_m rfl (ev_call rfl (l1All_len hl0 (own_i hO4) (by omega))) ?_
  rintro _ w5 ⟨rfl, hE5⟩
  have hz5 := hE5.size
  replace hE := hE.trans hE5
  replace hA := hA.ext hE5
  replace hB1 := hB1.ext hE5
  replace hO4 := hO4.ext hE5
  refine WL_q rfl (ev_assign rfl) ?_
  refine WL_nil ?_
  refine thenE_n ?_
  refine W_ret ?_
  refine ret1 rfl rfl ?_
  exact ⟨_, rfl, conn_all hk h0 h40, hE⟩

end Go.Proofs.Ytoeencgofelgoaa
