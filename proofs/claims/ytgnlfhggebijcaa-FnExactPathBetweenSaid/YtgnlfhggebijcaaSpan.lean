/- Contracts of SpanningTree and PathBetween, of the program and of the reference; the walks of their laws. -/
import Derived.Test.YtgnlfhggebijcaaDist
namespace Go.Proofs.Ytgnlfhggebijcaa
open Go Go.RowKit

def twp (ds : List Int) (v : Nat) (x : Int) : Bool := decide (0 < ds.getD v 0) && decide (ds.getD x.toNat 0 = ds.getD v 0 - 1)
theorem twd_idx {ends : Ends} {ds : List Int} {v : Nat} : twd ends ds v = idxF (twp ds v) (near ends (v : Int)) := rfl
theorem idxF_map {α β : Type} {p : β → Bool} {f : α → β} {xs : List α} : idxF p (xs.map f) = idxF (fun x => p (f x)) xs := by
  unfold idxF; rw [List.findIdx?_map]; rfl
theorem idxF_congr {α : Type} {p q : α → Bool} {xs : List α} (h : ∀ x ∈ xs, p x = q x) : idxF p xs = idxF q xs := by
  unfold idxF
  have : xs.findIdx? p = xs.findIdx? q := by
    induction xs with
    | nil => rfl
    | cons x r ih => rw [List.findIdx?_cons, List.findIdx?_cons, h x (List.mem_cons_self ..), ih fun y hy => h y (List.mem_cons_of_mem _ hy)]
  rw [this]
theorem twd_row {ends : Ends} {ds : List Int} {v : Nat} (hv : v < ends.length) : twd ends ds v = idxF (fun e : Int × Int => twp ds v e.1) ends[v] := by
  have hg : near ends (v : Int) = (ends[v]).map Prod.fst := by have := near_get (ends := ends) (w := (v : Int)) (by simpa using hv); simpa using this
  rw [twd_idx, hg, idxF_map]
theorem twd_path {ends : Ends} {ds : List Int} {v : Nat} (hv : v < ends.length) (hd : 0 < ds.getD v 0) : twd ends ds v = idxF (fun e : Int × Int => decide (ds.getD e.1.toNat 0 = ds.getD v 0 - 1)) ends[v] := by
  rw [twd_row hv]
  refine idxF_congr fun e _ => ?_
  unfold twp
  rw [decide_eq_true hd, Bool.true_and]
theorem twp_t {ds : List Int} {v : Nat} {x : Int} (hv : v < ds.length) (hx : x.toNat < ds.length) (h : decide (0 < ds[v]) = true) : decide (ds[x.toNat] = ds[v] - 1) = twp ds v x := by
  unfold twp; rw [getD_eq hv, getD_eq hx, h, Bool.true_and]
theorem twp_f {ds : List Int} {v : Nat} {x : Int} (hv : v < ds.length) (h : decide (0 < ds[v]) = false) : false = twp ds v x := by
  unfold twp; rw [getD_eq hv, h, Bool.false_and]
theorem twp_path {ds : List Int} {v : Nat} {x : Int} (hv : v < ds.length) (hx : x.toNat < ds.length) : decide (ds[x.toNat] = ds[v] - 1) = decide (ds.getD x.toNat 0 = ds.getD v 0 - 1) := by rw [getD_eq hv, getD_eq hx]
theorem twd_hit {ends : Ends} {ds : List Int} {v i : Nat} (hi : i < (near ends (v : Int)).length) (hp : twp ds v (near ends (v : Int))[i] = true) (hn : ∀ j (_h : j < i) (h2 : j < (near ends (v : Int)).length), twp ds v (near ends (v : Int))[j] = false) : ((i : Nat) : Int) = twd ends ds v := (idxF_at hi hp hn).symm
theorem twd_miss {ends : Ends} {ds : List Int} {v : Nat} (hn : ∀ j (h2 : j < (near ends (v : Int)).length), twp ds v (near ends (v : Int))[j] = false) : (-1 : Int) = twd ends ds v := (idxF_none hn).symm
theorem and_of {a b : Bool} (h : a = true) (k : b = true) : (a && b) = true := by rw [h, k]; rfl

set_option maxRecDepth 100000 in
theorem IndexFunc_end {lo hi : Nat} (a : Option Addr) (c : Nat) (xs : List (Int × Int)) (f : FuncId) (cap : List Value) (p : (Int × Int) → Bool) (w : World) (hx : Pairs lo hi w a c xs) (hm : xs.length ≤ 1048576) (hp : ∀ i (h : i < xs.length) (w1 : World), Ext w w1 → Fn Try.prog f ([] ++ [Value.agg #[VI xs[i].1, VI xs[i].2]] ++ cap).toArray w1 (fun v w2 => v = VB (p xs[i]) ∧ Ext w1 w2)) :
    Fn Try.prog 73 #[.slice a xs.length c, .func (.func f) #[] cap.toArray] w (fun v w' => v = VI (idxF p xs) ∧ Ext w w') := by
  have hE := Ext.refl w
  refine Fn_of Try.func73 rfl rfl (by kernel_rfl) rfl ?_
  refine W_seq ?_
  refine W_region ?_
  refine WL_q rfl (ev_assign rfl) ?_
  refine WL_nil ?_
  refine thenE_n ?_
  refine W_seq ?_
  refine W_seq ?_
  refine W_region ?_
  refine WL_q rfl (ev_move rfl) ?_
  refine WL_q rfl (ev_len Try.underlying65 rfl) ?_
  refine WL_q rfl (ev_move rfl) ?_
  refine WL_nil ?_
  refine thenE_n ?_
  refine W_block ?_
  refine W_loopC (G := Nat) [(0, _), (1, _), (7, _)] ((Subs.c rfl (Subs.c rfl (Subs.c rfl Subs.n)))) (fun i => [(8, VI (i : Int))]) (fun i w' => Ext w w' ∧ i ≤ xs.length ∧ ∀ j (_h : j < i) (h2 : j < xs.length), p xs[j] = false) (fun i => xs.length - i) 0 ((Subs.c (lkI rfl (by omega)) Subs.n)) (⟨Ext.refl _, ⟨Nat.zero_le _, fun j h => by omega⟩⟩) ?_
  rintro i wL0 ⟨hRL0, hi, hJ⟩
  have hzL0 := hRL0.size
  replace hE := hE.trans hRL0
  replace hx := hx.ext hRL0
  refine W_seq ?_
  refine W_region ?_
  refine WL_q rfl (ev_lss rfl rfl) ?_
  refine WL_nil ?_
  refine thenE_n ?_
  refine W_seq ?_
  refine W_cond rfl (fun hg9 => ?_) (fun hg9 => ?_)
  · have hp9 := of_decide_eq_true hg9
    refine W_skip ?_
    refine thenE_n ?_
    refine W_seq ?_
    refine W_block ?_
    refine W_seq ?_
    refine W_region ?_
    refine WL_q rfl (ev_move rfl) ?_
    refine WL_q rfl (ev_assign rfl) ?_
    refine WL_nil ?_
    refine thenE_n ?_
    refine W_seq ?_
    refine W_region ?_
    refine WL_q rfl (ev_move rfl) ?_
    refine WL_q rfl (ev_move rfl) ?_
    refine WL_q rfl (ev_move rfl) ?_
    refine WL_q rfl (ev_indexAddr Try.underlying65 sz68 rfl rfl (hx.isSome (by omega)) (by omega) (by omega)) ?_
    refine WL_q rfl (ev_loads st68 sz68 rfl (hx.cells (i := i) (by omega)) rfl) ?_
    refine WL_m rfl (ev_callv rfl rfl (hp i (by omega) _ hE)) ?_
    rintro _ w16 ⟨rfl, hE16⟩
    have hz16 := hE16.size
    replace hE := hE.trans hE16
    replace hRL0 := hRL0.trans hE16
    replace hx := hx.ext hE16
    refine WL_nil ?_
    refine thenE_n ?_
    refine W_cond rfl (fun hg16 => ?_) (fun hg16 => ?_)
    · refine W_seq ?_
      refine W_region ?_
      refine WL_q rfl (ev_move rfl) ?_
      refine WL_q rfl (ev_assign rfl) ?_
      refine WL_nil ?_
      refine thenE_n ?_
      refine W_ret ?_
      refine blockE_r ?_
      refine thenE_r ?_
      refine thenE_r ?_
      refine blockE_r ?_
      refine thenE_r ?_
      refine ret1 rfl rfl ?_
      first | exact ⟨vi (idxF_at (by omega) hg16 hJ).symm, hE⟩ | exact ⟨vi (idxF_none fun j h2 => hJ j (by omega) h2).symm, hE⟩
    · refine W_skip ?_
      refine blockE_n ?_
      refine thenE_n ?_
      refine W_region ?_
      refine WL_q rfl (ev_add rfl rfl (by omega)) ?_
      refine WL_q rfl (ev_move rfl) ?_
      refine WL_nil ?_
      refine thenE_n ?_
      exact ⟨i + 1, (Subs.c rfl (Subs.c rfl (Subs.c rfl Subs.n))), (Subs.c (lkI rfl (by omega)) Subs.n), ⟨hRL0, ⟨by omega, dsucc (P := fun j h2 => p xs[j] = false) hJ (by omega) hg16⟩⟩, by first | omega | (dsimp only; omega)⟩
  · have hp9 := of_decide_eq_false hg9
    refine W_exit ?_
    refine thenE_x ?_
    refine thenE_x ?_
    refine blockE_hit ?_
    refine thenE_n ?_
    refine W_seq ?_
    refine W_region ?_
    refine WL_q rfl (ev_assign rfl) ?_
    refine WL_nil ?_
    refine thenE_n ?_
    refine W_ret ?_
    refine ret1 rfl rfl ?_
    first | exact ⟨vi (idxF_at (by omega) hg16 hJ).symm, hE⟩ | exact ⟨vi (idxF_none fun j h2 => hJ j (by omega) h2).symm, hE⟩

set_option maxRecDepth 100000 in
theorem Span_1 {lo hi : Nat} (e : Int × Int) (b1 b2 : Nat) (T1 T2 : TypeId) (ds : List Int) (ad : Option Addr) (n cd v : Nat) (w : World) (h1 : Blk w b1 T1 [.slice ad n cd]) (h2 : Blk w b2 T2 [VI (v : Int)]) (hl : n = ds.length) (hd : Ints lo hi w ad cd ds) (hv : v < ds.length) (he : 0 ≤ e.1 ∧ e.1.toNat < ds.length) (hr : ∀ x ∈ ds, -1 ≤ x ∧ x ≤ 40) :
    Fn Try.prog 74 #[.agg #[VI e.1, VI e.2], ptr b1 0, ptr b2 0] w (fun o9 w' => o9 = VB (twp ds v e.1) ∧ Ext w w') := by
  subst hl
  obtain ⟨he1, he2⟩ := he
  have hrv := hr _ (List.getElem_mem hv)
  have hre := hr _ (List.getElem_mem he2)
  have hE := Ext.refl w
  refine Fn_of Try.func74 rfl rfl (by kernel_rfl) rfl ?_
  refine W_seq ?_
  refine W_region ?_
  refine WL_m rfl (ev_box rfl) ?_
  rintro _ w3 ⟨rfl, hN3⟩
  have hz3 := hN3.size
  replace hE := hE.trans hN3.ext
  replace h1 := h1.ext hN3.ext
  replace h2 := h2.ext hN3.ext
  replace hd := hd.ext hN3.ext
  have hB3 : Blk w3 _ _ [_, _] := hN3.blk
  refine WL_q rfl (ev_assign rfl) ?_
  refine WL_nil ?_
  refine thenE_n ?_
  refine W_seq ?_
  refine W_drawE [(0, true), (1, true), (2, true), (3, true), (4, true), (5, true), (6, true), (7, true), (8, true), (9, true), (10, true), (11, true), (12, true), (13, true), (14, true), (15, true), (16, true), (17, true), (18, true)] mixed (by kernel_rfl) rfl (by kernel_rfl) ?_
  intro wd1 hEd1 hzd1
  replace hE := hE.trans hEd1
  replace h1 := h1.ext hEd1
  replace h2 := h2.ext hEd1
  replace hd := hd.ext hEd1
  replace hB3 := hB3.ext hEd1
  have hDd1 := Ext.refl wd1
  refine PW_q rfl rfl (fun wq hq => ev_load one23 rfl (hq.cell (h1.cell rfl))) ?_
  refine PW_q rfl rfl (fun wq hq => ev_load one3 rfl (hq.cell (h2.cell rfl))) ?_
  refine PW_q rfl rfl (fun wq hq => ev_indexAddr Try.underlying23 sz3 rfl rfl (hd.isSome (by omega)) (by omega) (by omega)) ?_
  have hc8 := hd.cell (i := v) (by omega)
  refine PW_q rfl rfl (fun wq hq => ev_load one3 rfl (hq.cell (hc8))) ?_
  refine PW_q rfl rfl (fun wq hq => ev_gtr rfl rfl) ?_
  refine PW_q rfl rfl (fun wq hq => ev_move rfl) ?_
  refine PW_splitv (t := 10) rfl (fun hg9 => ?_) (fun hg9 => ?_)
  · have hp9 := of_decide_eq_true hg9
    refine PW_qg rfl rfl rfl hg9 rfl (fun wq hq => ev_load one23 rfl (hq.cell (h1.cell rfl))) ?_
    refine PW_qg rfl rfl rfl hg9 rfl (fun wq hq => ev_fieldAddr fo68_0 rfl) ?_
    refine PW_qg rfl rfl rfl hg9 rfl (fun wq hq => ev_load one3 rfl (hq.cell (hB3.cell rfl))) ?_
    refine PW_qg rfl rfl rfl hg9 rfl (fun wq hq => ev_indexAddr Try.underlying23 sz3 rfl rfl (hd.isSome (by omega)) (by omega) (by omega)) ?_
    have hc15 := hd.cell (i := e.1.toNat) (by omega)
    refine PW_qg rfl rfl rfl hg9 rfl (fun wq hq => ev_load one3 rfl (hq.cell (hc15))) ?_
    refine PW_qg rfl rfl rfl hg9 rfl (fun wq hq => ev_load one23 rfl (hq.cell (h1.cell rfl))) ?_
    refine PW_qg rfl rfl rfl hg9 rfl (fun wq hq => ev_load one3 rfl (hq.cell (h2.cell rfl))) ?_
    refine PW_qg rfl rfl rfl hg9 rfl (fun wq hq => ev_indexAddr Try.underlying23 sz3 rfl rfl (hd.isSome (by omega)) (by omega) (by omega)) ?_
    have hc19 := hd.cell (i := v) (by omega)
    refine PW_qg rfl rfl rfl hg9 rfl (fun wq hq => ev_load one3 rfl (hq.cell (hc19))) ?_
    refine PW_qg rfl rfl rfl hg9 rfl (fun wq hq => ev_sub rfl rfl (by omega)) ?_
    refine PW_qg rfl rfl rfl hg9 rfl (fun wq hq => ev_eql rfl rfl) ?_
    refine PW_q rfl rfl (fun wq hq => ev_pick_t rfl hg9 rfl) ?_
    refine PW_q rfl rfl (fun wq hq => ev_assign rfl) ?_
    refine PW_nil ?_
    refine thenE_n ?_
    refine W_ret ?_
    refine ret1 rfl rfl ?_
    first | exact ⟨vb (twp_t hv he2 hg9), hE⟩ | exact ⟨vb (twp_f hv hg9), hE⟩
  · have hp9 := of_decide_eq_false hg9
    refine PW_no rfl rfl rfl hg9 rfl ?_
    refine PW_no rfl rfl rfl hg9 rfl ?_
    refine PW_no rfl rfl rfl hg9 rfl ?_
    refine PW_no rfl rfl rfl hg9 rfl ?_
    refine PW_no rfl rfl rfl hg9 rfl ?_
    refine PW_no rfl rfl rfl hg9 rfl ?_
    refine PW_no rfl rfl rfl hg9 rfl ?_
    refine PW_no rfl rfl rfl hg9 rfl ?_
    refine PW_no rfl rfl rfl hg9 rfl ?_
    refine PW_no rfl rfl rfl hg9 rfl ?_
    refine PW_no rfl rfl rfl hg9 rfl ?_
    refine PW_q rfl rfl (fun wq hq => ev_pick_f rfl hg9 rfl) ?_
    refine PW_q rfl rfl (fun wq hq => ev_assign rfl) ?_
    refine PW_nil ?_
    refine thenE_n ?_
    refine W_ret ?_
    refine ret1 rfl rfl ?_
    first | exact ⟨vb (twp_t hv he2 hg9), hE⟩ | exact ⟨vb (twp_f hv hg9), hE⟩

set_option maxRecDepth 100000 in
theorem Path_1 {lo hi : Nat} (e : Int × Int) (b1 b2 : Nat) (T1 T2 : TypeId) (ds : List Int) (ad : Option Addr) (n cd v : Nat) (w : World) (h1 : Blk w b1 T1 [.slice ad n cd]) (h2 : Blk w b2 T2 [VI (v : Int)]) (hl : n = ds.length) (hd : Ints lo hi w ad cd ds) (hv : v < ds.length) (he : 0 ≤ e.1 ∧ e.1.toNat < ds.length) (hr : ∀ x ∈ ds, -1 ≤ x ∧ x ≤ 40) :
    Fn Try.prog 76 #[.agg #[VI e.1, VI e.2], ptr b1 0, ptr b2 0] w (fun o9 w' => o9 = VB (decide (ds.getD e.1.toNat 0 = ds.getD v 0 - 1)) ∧ Ext w w') := by
  subst hl
  obtain ⟨he1, he2⟩ := he
  have hrv := hr _ (List.getElem_mem hv)
  have hre := hr _ (List.getElem_mem he2)
  have hE := Ext.refl w
  refine Fn_of Try.func76 rfl rfl (by kernel_rfl) rfl ?_
  refine W_seq ?_
  refine W_region ?_
  refine WL_m rfl (ev_box rfl) ?_
  rintro _ w3 ⟨rfl, hN3⟩
  have hz3 := hN3.size
  replace hE := hE.trans hN3.ext
  replace h1 := h1.ext hN3.ext
  replace h2 := h2.ext hN3.ext
  replace hd := hd.ext hN3.ext
  have hB3 : Blk w3 _ _ [_, _] := hN3.blk
  refine WL_q rfl (ev_assign rfl) ?_
  refine WL_nil ?_
  refine thenE_n ?_
  refine W_seq ?_
  refine W_drawE [(0, true), (1, true), (2, true), (3, true), (4, true), (5, true), (6, true), (7, true), (8, true), (9, true), (10, true), (11, true)] mixed (by kernel_rfl) rfl (by kernel_rfl) ?_
  intro wd1 hEd1 hzd1
  replace hE := hE.trans hEd1
  replace h1 := h1.ext hEd1
  replace h2 := h2.ext hEd1
  replace hd := hd.ext hEd1
  replace hB3 := hB3.ext hEd1
  have hDd1 := Ext.refl wd1
  refine PW_q rfl rfl (fun wq hq => ev_load one23 rfl (hq.cell (h1.cell rfl))) ?_
  refine PW_q rfl rfl (fun wq hq => ev_fieldAddr fo68_0 rfl) ?_
  refine PW_q rfl rfl (fun wq hq => ev_load one3 rfl (hq.cell (hB3.cell rfl))) ?_
  refine PW_q rfl rfl (fun wq hq => ev_indexAddr Try.underlying23 sz3 rfl rfl (hd.isSome (by omega)) (by omega) (by omega)) ?_
  have hc9 := hd.cell (i := e.1.toNat) (by omega)
  refine PW_q rfl rfl (fun wq hq => ev_load one3 rfl (hq.cell (hc9))) ?_
  refine PW_q rfl rfl (fun wq hq => ev_load one23 rfl (hq.cell (h1.cell rfl))) ?_
  refine PW_q rfl rfl (fun wq hq => ev_load one3 rfl (hq.cell (h2.cell rfl))) ?_
  refine PW_q rfl rfl (fun wq hq => ev_indexAddr Try.underlying23 sz3 rfl rfl (hd.isSome (by omega)) (by omega) (by omega)) ?_
  have hc13 := hd.cell (i := v) (by omega)
  refine PW_q rfl rfl (fun wq hq => ev_load one3 rfl (hq.cell (hc13))) ?_
  refine PW_q rfl rfl (fun wq hq => ev_sub rfl rfl (by omega)) ?_
  refine PW_q rfl rfl (fun wq hq => ev_eql rfl rfl) ?_
  refine PW_q rfl rfl (fun wq hq => ev_assign rfl) ?_
  refine PW_nil ?_
  refine thenE_n ?_
  refine W_ret ?_
  refine ret1 rfl rfl ?_
  exact ⟨vb (twp_path hv he2), hE⟩

set_option maxRecDepth 100000 in
theorem meToward_spec {loA hiA : Nat} (nA : NA) (A : Net) {lod hid : Nat} (ad : Option Addr) (cd : Nat) (d : List Int) (v : Int) (w : World) (hA : IsNet loA hiA w nA A) (hhiA : hiA ≤ w.heap.size) (hnA : totN A ≤ 1048576) (hd : Ints lod hid w ad cd d) (hhid : hid ≤ w.heap.size) (hnd : d.length ≤ 1048576) (hk : EndsOk A.ends) (hv : 0 ≤ v ∧ v.toNat < A.ends.length) (hdl : d.length = A.ends.length) (hdr : ∀ x ∈ d, -1 ≤ x ∧ x ≤ 40) :
    Fn Try.prog 75 #[netV nA A, .slice ad d.length cd, VI v] w (fun o9 w' => o9 = VI (twd A.ends d v.toNat) ∧ Ext w w') := by
  have hqA := totL_len A.ends
  have hmA : totL A.ends + A.ids.length + A.inputs.length ≤ 1048576 := hnA
  have hv1 := hv.1
  have hv2 := hv.2
  obtain ⟨u, rfl⟩ : ∃ u : Nat, v = (u : Int) := ⟨v.toNat, by omega⟩
  have hu : u < d.length := by omega
  have hru := hdr _ (List.getElem_mem hu)
  have hul : u < A.ends.length := by omega
  have htu := totL_le hul
  have hnl : (near A.ends (u : Int)).length = A.ends[u].length := by have := near_len (ends := A.ends) (x := (u : Int)) hv2; simpa using this
  have hE := Ext.refl w
  refine Fn_of Try.func75 rfl rfl (by kernel_rfl) rfl ?_
  refine W_seq ?_
  refine W_region ?_
  refine WL_m rfl (ev_box rfl) ?_
  rintro _ w3 ⟨rfl, hN3⟩
  have hz3 := hN3.size
  replace hE := hE.trans hN3.ext
  replace hA := hA.ext hN3.ext
  replace hd := hd.ext hN3.ext
  have hB3 : Blk w3 _ _ [_, _, _] := hN3.blk
  refine WL_q rfl (ev_assign rfl) ?_
  refine WL_nil ?_
  refine thenE_n ?_
  refine W_seq ?_
  refine W_seq ?_
  refine W_region ?_
  refine WL_q rfl (ev_loads st31 sz31 rfl (cellsB hB3) rfl) ?_
  refine WL_q rfl (ev_move rfl) ?_
  refine WL_m rfl (ev_call rfl (neNear_spec _ A (u : Int) _ hA (by omega) (by omega) (by omega))) ?_
  rintro _ w11 ⟨a11, c11, rfl, hO11, hE11⟩
  have hz11 := hE11.size
  replace hE := hE.trans hE11
  replace hA := hA.ext hE11
  replace hd := hd.ext hE11
  replace hB3 := hB3.ext hE11
  have hI11 := own_i hO11
  refine WL_q rfl (ev_len Try.underlying23 rfl) ?_
  refine WL_q rfl (ev_move rfl) ?_
  refine WL_nil ?_
  refine thenE_n ?_
  refine W_block ?_
  refine W_loopC (G := Nat) [(1, _), (2, _), (11, _), (12, _)] ((Subs.c rfl (Subs.c rfl (Subs.c rfl (Subs.c rfl Subs.n))))) (fun i => [(13, VI (i : Int))]) (fun i w' => Ext w11 w' ∧ i ≤ (near A.ends (u : Int)).length ∧ ∀ j (_h : j < i) (h2 : j < (near A.ends (u : Int)).length), twp d u (near A.ends (u : Int))[j] = false) (fun i => (near A.ends (u : Int)).length - i) 0 ((Subs.c (lkI rfl (by omega)) Subs.n)) (⟨Ext.refl _, ⟨Nat.zero_le _, fun j h => by omega⟩⟩) ?_
  rintro i wL0 ⟨hRL0, hi', hJ⟩
  have hzL0 := hRL0.size
  replace hE := hE.trans hRL0
  replace hA := hA.ext hRL0
  replace hd := hd.ext hRL0
  replace hB3 := hB3.ext hRL0
  replace hI11 := hI11.ext hRL0
  refine W_seq ?_
  refine W_region ?_
  refine WL_q rfl (ev_lss rfl rfl) ?_
  refine WL_nil ?_
  refine thenE_n ?_
  refine W_seq ?_
  refine W_cond rfl (fun hg14 => ?_) (fun hg14 => ?_)
  · have hp14 := of_decide_eq_true hg14
    refine W_skip ?_
    refine thenE_n ?_
    refine W_seq ?_
    refine W_block ?_
    refine W_seq ?_
    refine W_region ?_
    refine WL_q rfl (ev_move rfl) ?_
    have hlt : i < (near A.ends (u : Int)).length := by omega
    obtain ⟨hn1, hn2⟩ := near_ok hk (u : Int) _ (List.getElem_mem hlt)
    refine WL_q rfl (ev_indexAddr Try.underlying23 sz3 rfl rfl (hI11.isSome (by omega)) (by omega) (by omega)) ?_
    refine WL_q rfl (ev_load one3 rfl (hI11.cell (i := i) (by omega))) ?_
    refine WL_q rfl (ev_assign rfl) ?_
    refine WL_q rfl (ev_assign rfl) ?_
    refine WL_nil ?_
    refine thenE_n ?_
    refine W_seq ?_
    refine W_drawE [(0, true), (1, true), (2, true), (3, true), (4, true), (5, true), (6, true), (7, true), (8, true), (9, true), (10, true), (11, true), (12, true), (13, true), (14, true), (15, true), (16, true)] mixed (by kernel_rfl) rfl (by kernel_rfl) ?_
    intro wd4 hEd4 hzd4
    replace hE := hE.trans hEd4
    replace hRL0 := hRL0.trans hEd4
    replace hA := hA.ext hEd4
    replace hd := hd.ext hEd4
    replace hB3 := hB3.ext hEd4
    replace hI11 := hI11.ext hEd4
    have hDd4 := Ext.refl wd4
    refine PW_q rfl rfl (fun wq hq => ev_move rfl) ?_
    refine PW_q rfl rfl (fun wq hq => ev_move rfl) ?_
    refine PW_q rfl rfl (fun wq hq => ev_indexAddr Try.underlying23 sz3 rfl rfl (hd.isSome (by omega)) (by omega) (by omega)) ?_
    have hc21 := hd.cell (i := u) (by omega)
    refine PW_q rfl rfl (fun wq hq => ev_load one3 rfl (hq.cell (hc21))) ?_
    refine PW_q rfl rfl (fun wq hq => ev_gtr rfl rfl) ?_
    refine PW_q rfl rfl (fun wq hq => ev_move rfl) ?_
    refine PW_splitv (t := 23) rfl (fun hg22 => ?_) (fun hg22 => ?_)
    · have hp22 := of_decide_eq_true hg22
      refine PW_qg rfl rfl rfl hg22 rfl (fun wq hq => ev_move rfl) ?_
      refine PW_qg rfl rfl rfl hg22 rfl (fun wq hq => ev_move rfl) ?_
      refine PW_qg rfl rfl rfl hg22 rfl (fun wq hq => ev_indexAddr Try.underlying23 sz3 rfl rfl (hd.isSome (by omega)) (by omega) (by omega)) ?_
      have hc27 := hd.cell (i := ((near A.ends (u : Int))[i]).toNat) (by omega)
      refine PW_qg rfl rfl rfl hg22 rfl (fun wq hq => ev_load one3 rfl (hq.cell (hc27))) ?_
      refine PW_qg rfl rfl rfl hg22 rfl (fun wq hq => ev_move rfl) ?_
      refine PW_qg rfl rfl rfl hg22 rfl (fun wq hq => ev_move rfl) ?_
      refine PW_qg rfl rfl rfl hg22 rfl (fun wq hq => ev_indexAddr Try.underlying23 sz3 rfl rfl (hd.isSome (by omega)) (by omega) (by omega)) ?_
      have hc31 := hd.cell (i := u) (by omega)
      refine PW_qg rfl rfl rfl hg22 rfl (fun wq hq => ev_load one3 rfl (hq.cell (hc31))) ?_
      refine PW_qg rfl rfl rfl hg22 rfl (fun wq hq => ev_sub rfl rfl (by omega)) ?_
      refine PW_qg rfl rfl rfl hg22 rfl (fun wq hq => ev_eql rfl rfl) ?_
      refine PW_q rfl rfl (fun wq hq => ev_pick_t rfl hg22 rfl) ?_
      refine PW_nil ?_
      refine thenE_n ?_
      refine W_cond rfl (fun hg33 => ?_) (fun hg33 => ?_)
      · have hp33 := of_decide_eq_true hg33
        refine W_seq ?_
        refine W_region ?_
        refine WL_q rfl (ev_move rfl) ?_
        refine WL_q rfl (ev_assign rfl) ?_
        refine WL_nil ?_
        refine thenE_n ?_
        refine W_ret ?_
        refine blockE_r ?_
        refine thenE_r ?_
        refine thenE_r ?_
        refine blockE_r ?_
        refine thenE_r ?_
        refine ret1 rfl rfl ?_
        first | (exact ⟨vi (by rw [Int.toNat_natCast]; exact twd_hit hlt ((twp_t hu (by omega) hg22).symm.trans hg33) hJ), hE⟩) | (exact ⟨vi (by rw [Int.toNat_natCast]; exact twd_miss fun j h2 => hJ j (by omega) h2), hE⟩)
      · have hp33 := of_decide_eq_false hg33
        refine W_skip ?_
        refine blockE_n ?_
        refine thenE_n ?_
        refine W_region ?_
        refine WL_q rfl (ev_add rfl rfl (by omega)) ?_
        refine WL_q rfl (ev_move rfl) ?_
        refine WL_nil ?_
        refine thenE_n ?_
        exact ⟨i + 1, (Subs.c rfl (Subs.c rfl (Subs.c rfl (Subs.c rfl Subs.n)))), (Subs.c (lkI rfl (by omega)) Subs.n), ⟨hRL0, ⟨by omega, dsucc (P := fun j h2 => twp d u (near A.ends (u : Int))[j] = false) hJ hlt ((twp_t hu (by omega) hg22).symm.trans hg33)⟩⟩, by first | omega | (dsimp only; omega)⟩
    · have hp22 := of_decide_eq_false hg22
      refine PW_no rfl rfl rfl hg22 rfl ?_
      refine PW_no rfl rfl rfl hg22 rfl ?_
      refine PW_no rfl rfl rfl hg22 rfl ?_
      refine PW_no rfl rfl rfl hg22 rfl ?_
      refine PW_no rfl rfl rfl hg22 rfl ?_
      refine PW_no rfl rfl rfl hg22 rfl ?_
      refine PW_no rfl rfl rfl hg22 rfl ?_
      refine PW_no rfl rfl rfl hg22 rfl ?_
      refine PW_no rfl rfl rfl hg22 rfl ?_
      refine PW_no rfl rfl rfl hg22 rfl ?_
      refine PW_q rfl rfl (fun wq hq => ev_pick_f rfl hg22 rfl) ?_
      refine PW_nil ?_
      refine thenE_n ?_
      refine W_cond_f rfl ?_
      refine W_skip ?_
      refine blockE_n ?_
      refine thenE_n ?_
      refine W_region ?_
      refine WL_q rfl (ev_add rfl rfl (by omega)) ?_
      refine WL_q rfl (ev_move rfl) ?_
      refine WL_nil ?_
      refine thenE_n ?_
      exact ⟨i + 1, (Subs.c rfl (Subs.c rfl (Subs.c rfl (Subs.c rfl Subs.n)))), (Subs.c (lkI rfl (by omega)) Subs.n), ⟨hRL0, ⟨by omega, dsucc (P := fun j h2 => twp d u (near A.ends (u : Int))[j] = false) hJ hlt (twp_f hu hg22).symm⟩⟩, by first | omega | (dsimp only; omega)⟩
  · have hp14 := of_decide_eq_false hg14
    refine W_exit ?_
    refine thenE_x ?_
    refine thenE_x ?_
    refine blockE_hit ?_
    refine thenE_n ?_
    refine W_seq ?_
    refine W_region ?_
    refine WL_q rfl (ev_assign rfl) ?_
    refine WL_nil ?_
    refine thenE_n ?_
    refine W_ret ?_
    refine ret1 rfl rfl ?_
    first | (exact ⟨vi (by rw [Int.toNat_natCast]; exact twd_hit hlt ((twp_t hu (by omega) hg22).symm.trans hg33) hJ), hE⟩) | (exact ⟨vi (by rw [Int.toNat_natCast]; exact twd_miss fun j h2 => hJ j (by omega) h2), hE⟩)

theorem meToward_len {loA hiA lod hid n : Nat} {w : World} {ad : Option Addr} {cd : Nat} {d : List Int} (hl : d.length = n) (nA : NA) (A : Net) (v : Int) (hA : IsNet loA hiA w nA A) (hhA : hiA ≤ w.heap.size) (hnA : totN A ≤ 1048576) (hd : Ints lod hid w ad cd d) (hhd : hid ≤ w.heap.size) (hnd : d.length ≤ 1048576)
    (hk : EndsOk A.ends) (hv : 0 ≤ v ∧ v.toNat < A.ends.length) (hdl : d.length = A.ends.length) (hdr : ∀ x ∈ d, -1 ≤ x ∧ x ≤ 40) : Fn Try.prog 75 #[netV nA A, .slice ad n cd, VI v] w (fun o9 w' => o9 = VI (twd A.ends d v.toNat) ∧ Ext w w') := by
  subst hl; exact meToward_spec _ _ _ _ _ _ _ hA hhA hnA hd hhd hnd hk hv hdl hdr

set_option maxRecDepth 100000 in
theorem meSpan_spec {loA hiA : Nat} (nA : NA) (A : Net) (v : Int) (w : World) (hA : IsNet loA hiA w nA A) (hhiA : hiA ≤ w.heap.size) (hnA : totN A ≤ 1048576) (hk : EndsOk A.ends) (hv : 0 ≤ v ∧ v.toNat < A.ends.length) (h40 : A.ends.length ≤ 40) :
    Fn Try.prog 72 #[netV nA A, VI v] w (fun o9 w' => ∃ a' c', o9 = .slice a' (spanL A.ends (bfs A.ends v)).length c' ∧ Own w.heap.size w' 3 1 a' (spanL A.ends (bfs A.ends v)).length c' ((spanL A.ends (bfs A.ends v)).map VI) ∧ Ext w w') := by
  have hqA := totL_len A.ends
  have hmA : totL A.ends + A.ids.length + A.inputs.length ≤ 1048576 := hnA
  have hv1 := hv.1
  have hv2 := hv.2
  have hl0 := bfs_len hk hv1 hv2
  have hsl := spanL_len A.ends (bfs A.ends v)
  have hdr : ∀ x ∈ bfs A.ends v, -1 ≤ x ∧ x ≤ 40 := fun x hx => by have := bfs_rng hk hv1 hv2 x hx; omega
  have hE := Ext.refl w
  refine Fn_of Try.func72 rfl rfl (by kernel_rfl) rfl ?_
  refine W_seq ?_
  refine W_region ?_
  refine WL_m rfl (ev_box rfl) ?_
  rintro _ w2 ⟨rfl, hN2⟩
  have hz2 := hN2.size
  replace hE := hE.trans hN2.ext
  replace hA := hA.ext hN2.ext
  have hB2 : Blk w2 _ _ [_, _, _] := hN2.blk
  refine WL_q rfl (ev_assign rfl) ?_
  refine WL_nil ?_
  refine thenE_n ?_
  refine W_seq ?_
  refine W_region ?_
  refine WL_q rfl (ev_loads st31 sz31 rfl (cellsB hB2) rfl) ?_
  refine WL_q rfl (ev_move rfl) ?_
  refine WL_m rfl (ev_call rfl (meFrom_spec _ A _ _ hA (by omega) (by omega) (by assumption) (by omega))) ?_
  rintro _ w10 ⟨a10, c10, rfl, hO10, hE10⟩
  have hz10 := hE10.size
  replace hE := hE.trans hE10
  replace hA := hA.ext hE10
  replace hB2 := hB2.ext hE10
  have hI10 := own_i hO10
  refine WL_q rfl (ev_assign rfl) ?_
  refine WL_nil ?_
  refine thenE_n ?_
  refine W_seq ?_
  refine W_region ?_
  refine WL_q rfl (ev_assign rfl) ?_
  refine WL_nil ?_
  refine thenE_n ?_
  refine W_seq ?_
  refine W_seq ?_
  refine W_region ?_
  refine WL_q rfl (ev_fieldAddr fo31_0 rfl) ?_
  refine WL_q rfl (ev_load one29 rfl (hB2.cell rfl)) ?_
  refine WL_q rfl (ev_len Try.underlying29 rfl) ?_
  refine WL_q rfl (ev_move rfl) ?_
  refine WL_nil ?_
  refine thenE_n ?_
  refine W_block ?_
  refine W_loopC (G := Nat × Option Addr × Nat) [(2, _), (5, _), (13, _)] ((Subs.c rfl (Subs.c rfl (Subs.c rfl Subs.n)))) (fun ⟨i, a, c⟩ => [(6, .slice a i c), (14, VI (i : Int))]) (fun ⟨i, a, c⟩ w' => Ext w10 w' ∧ i ≤ A.ends.length ∧ OwnH w10.heap.size w'.heap.size 0 0 w' 3 1 a i c (((spanL A.ends (bfs A.ends v)).take i).map VI)) (fun g => A.ends.length - g.1) (0, none, 0) ((Subs.c rfl (Subs.c (lkI rfl (by omega)) Subs.n))) (⟨Ext.refl _, ⟨by omega, OwnH.nil⟩⟩) ?_
  rintro ⟨i, a, c⟩ wL0 ⟨hRL0, hi', hO⟩
  have hzL0 := hRL0.size
  replace hE := hE.trans hRL0
  replace hA := hA.ext hRL0
  replace hB2 := hB2.ext hRL0
  replace hI10 := hI10.ext hRL0
  refine W_seq ?_
  refine W_region ?_
  refine WL_q rfl (ev_lss rfl rfl) ?_
  refine WL_nil ?_
  refine thenE_n ?_
  refine W_seq ?_
  refine W_cond rfl (fun hg15 => ?_) (fun hg15 => ?_)
  · have hp15 := of_decide_eq_true hg15
    refine W_skip ?_
    refine thenE_n ?_
    refine W_seq ?_
    refine W_block ?_
    refine W_seq ?_
    refine W_region ?_
    refine WL_q rfl (ev_move rfl) ?_
    refine WL_q rfl (ev_assign rfl) ?_
    refine WL_nil ?_
    refine thenE_n ?_
    refine W_region ?_
    refine WL_q rfl (ev_move rfl) ?_
    refine WL_q rfl (ev_loads st31 sz31 rfl (cellsB hB2) rfl) ?_
    refine WL_q rfl (ev_move rfl) ?_
    refine WL_q rfl (ev_move rfl) ?_
    refine WL_m rfl (ev_call rfl (meToward_len hl0 _ A _ hA (by omega) (by omega) hI10 (by omega) (by omega) hk (by omega) (by omega) hdr)) ?_
    rintro _ w21 ⟨rfl, hE21⟩
    have hz21 := hE21.size
    replace hE := hE.trans hE21
    replace hRL0 := hRL0.trans hE21
    replace hA := hA.ext hE21
    replace hB2 := hB2.ext hE21
    replace hI10 := hI10.ext hE21
    replace hO := hO.ext hE21
    refine WL_m rfl (ev_lit1 Try.underlying23 el3 (by decide) (by decide) rfl rfl) ?_
    rintro _ w22 ⟨rfl, hN22⟩
    have hz22 := hN22.size
    replace hE := hE.trans hN22.ext
    replace hRL0 := hRL0.trans hN22.ext
    replace hA := hA.ext hN22.ext
    replace hB2 := hB2.ext hN22.ext
    replace hI10 := hI10.ext hN22.ext
    replace hO := hO.ext hN22.ext
    have hB22 := hN22.blk
    refine WL_m rfl (ev_appendT Try.underlying23 el3 rfl (by decide) rfl rfl hO (SAt.of_blk (cs := [_]) (ds := []) hB22) rfl (by simp [Value.oneCell']) (by omega) (by unfold maxLen; omega) (by omega)) ?_
    rintro _ w23 ⟨a23, c23, rfl, hO23, hK23, hQ23⟩
    have hz23 := hK23.size
    replace hE := hE.rg hK23 (by omega)
    replace hRL0 := hRL0.rg hK23 (by omega)
    replace hA := hA.rg hK23 (by omega)
    replace hB2 := hB2.rg hK23 (by omega)
    replace hI10 := hI10.rg hK23 (by omega)
    replace hB22 := hB22.rg hK23 (by omega)
    replace hO := hO23
    replace hO := ownt_snocI hO
    refine WL_q rfl (ev_assign rfl) ?_
    refine WL_nil ?_
    refine blockE_n ?_
    refine thenE_n ?_
    refine W_region ?_
    refine WL_q rfl (ev_add rfl rfl (by omega)) ?_
    refine WL_q rfl (ev_move rfl) ?_
    refine WL_nil ?_
    refine thenE_n ?_
    exact ⟨(i + 1, a23, c23), (Subs.c rfl (Subs.c rfl (Subs.c rfl Subs.n))), (Subs.c rfl (Subs.c (lkI rfl (by omega)) Subs.n)), ⟨hRL0, ⟨by omega, (ownt_take hO (by omega) (spanL_at (by omega))).up (Nat.le_refl _) (by omega)⟩⟩, by first | omega | (dsimp only; omega)⟩
  · have hp15 := of_decide_eq_false hg15
    refine W_exit ?_
    refine thenE_x ?_
    refine thenE_x ?_
    refine blockE_hit ?_
    refine thenE_n ?_
    refine W_seq ?_
    refine W_region ?_
    refine WL_q rfl (ev_move rfl) ?_
    refine WL_q rfl (ev_assign rfl) ?_
    refine WL_nil ?_
    refine thenE_n ?_
    refine W_ret ?_
    refine ret1 rfl rfl ?_
    have hi9 : i = (spanL A.ends (bfs A.ends v)).length := by omega
    subst hi9
    exact ⟨_, _, rfl, by rw [List.take_length] at hO; exact hO.1.mono (by omega), hE⟩

set_option maxRecDepth 100000 in
theorem sSpanningTree_spec {loA hiA : Nat} (nA : NA) (A : Net) (v : Int) (w : World) (hA : IsNet loA hiA w nA A) (hhiA : hiA ≤ w.heap.size) (hnA : totN A ≤ 1048576) :
    Fn Try.prog 32 #[netV nA A, VI v] w (fun o9 w' => ∃ a' c' ys q, o9 = .tuple #[.slice a' ys.length c', VB q] ∧ RV [] (opt (NN A v) (spanL A.ends (bfs A.ends v))) ys q ∧ Ints 0 w'.heap.size w' a' c' ys ∧ ys.length ≤ 1048576 ∧ Ext w w') := by
  have hqA := totL_len A.ends
  have hmA : totL A.ends + A.ids.length + A.inputs.length ≤ 1048576 := hnA
  have hsl := spanL_len A.ends (bfs A.ends v)
  have hE := Ext.refl w
  refine Fn_of Try.func32 rfl rfl (by kernel_rfl) rfl ?_
  refine W_seq ?_
  refine W_region ?_
  refine WL_m rfl (ev_box rfl) ?_
  rintro _ w2 ⟨rfl, hN2⟩
  have hz2 := hN2.size
  replace hE := hE.trans hN2.ext
  replace hA := hA.ext hN2.ext
  have hB2 : Blk w2 _ _ [_, _, _] := hN2.blk
  refine WL_q rfl (ev_assign rfl) ?_
  refine WL_q rfl (ev_assign rfl) ?_
  refine WL_nil ?_
  refine thenE_n ?_
  refine W_seq ?_
  refine W_seq ?_
  refine W_region ?_
  refine WL_q rfl (ev_loads st31 sz31 rfl (cellsB hB2) rfl) ?_
  refine WL_q rfl (ev_move rfl) ?_
  refine WL_m rfl (ev_call rfl (neNode_spec _ A _ _ hA (by omega) (by omega))) ?_
  rintro _ w8 ⟨b8, rfl, hb8, hE8⟩
  have hz8 := hE8.size
  replace hE := hE.trans hE8
  replace hA := hA.ext hE8
  replace hB2 := hB2.ext hE8
  refine WL_q rfl (ev_not rfl) ?_
  refine WL_nil ?_
  refine thenE_n ?_
  refine W_cond rfl (fun hg9 => ?_) (fun hg9 => ?_)
  · have hg8 := not_true hg9
    have hp8 := ttN hb8 hg8
    refine W_seq ?_
    refine W_region ?_
    refine WL_q rfl (ev_assign rfl) ?_
    refine WL_q rfl (ev_assign rfl) ?_
    refine WL_nil ?_
    refine thenE_n ?_
    refine W_ret ?_
    refine thenE_r ?_
    refine ret2 rfl rfl rfl ?_
    first | (exact ⟨none, 0, [], _, rfl, .no (fun h => hp8 h), Ints.nil, by simp, hE⟩) | (exact ⟨_, _, _, true, rfl, .yes hp8 rfl, (own_i hO12).mono (Nat.zero_le _) (Nat.le_refl _), by omega, hE⟩)
  · have hg8 := not_false hg9
    have hp8 := hb8.1 hg8
    refine W_skip ?_
    refine thenE_n ?_
    refine W_seq ?_
    refine W_region ?_
    refine WL_q rfl (ev_loads st31 sz31 rfl (cellsB hB2) rfl) ?_
    refine WL_q rfl (ev_move rfl) ?_
    have hk := hp8.1.endsOk
    have hv1 := hp8.2.1
    have hv2 := hp8.2.2
    have hl0 := bfs_len hk hv1 hv2
    have hnd := hp8.1.nodes
    refine WL_m rfl (ev_call rfl (meSpan_spec _ A _ _ hA (by omega) (by omega) (by assumption) (by omega) (by omega))) ?_
    rintro _ w12 ⟨a12, c12, rfl, hO12, hE12⟩
    have hz12 := hE12.size
    replace hE := hE.trans hE12
    replace hA := hA.ext hE12
    replace hB2 := hB2.ext hE12
    refine WL_q rfl (ev_assign rfl) ?_
    refine WL_q rfl (ev_assign rfl) ?_
    refine WL_nil ?_
    refine thenE_n ?_
    refine W_ret ?_
    refine ret2 rfl rfl rfl ?_
    first | (exact ⟨none, 0, [], _, rfl, .no (fun h => hp8 h), Ints.nil, by simp, hE⟩) | (exact ⟨_, _, _, true, rfl, .yes hp8 rfl, (own_i hO12).mono (Nat.zero_le _) (Nat.le_refl _), by omega, hE⟩)

set_option maxHeartbeats 4000000 in
set_option maxRecDepth 100000 in
theorem SpanningTree_spec {loA hiA : Nat} (nA : NA) (A : Net) (v : Int) (w : World) (hA : IsNet loA hiA w nA A) (hhiA : hiA ≤ w.heap.size) (hnA : totN A ≤ 1048576) :
    Fn Try.prog 33 #[netV nA A, VI v] w (fun o9 w' => ∃ a' c' ys q, o9 = .tuple #[.slice a' ys.length c', VB q] ∧ RV [] (opt (NN A v) (spanL A.ends (bfs A.ends v))) ys q ∧ OwnH w.heap.size w'.heap.size 0 0 w' 3 1 a' ys.length c' (ys.map VI) ∧ ys.length ≤ 1048576 ∧ Ext w w') := by
  have hqA := totL_len A.ends
  have hmA : totL A.ends + A.ids.length + A.inputs.length ≤ 1048576 := hnA
  have hsl := spanL_len A.ends (bfs A.ends v)
  have hE := Ext.refl w
  refine Fn_of Try.func33 rfl rfl (by kernel_rfl) rfl ?_
  refine W_seq ?_
  refine W_region ?_
  refine WL_m rfl (ev_box rfl) ?_
  rintro _ w2 ⟨rfl, hN2⟩
  have hz2 := hN2.size
  replace hE := hE.trans hN2.ext
  replace hA := hA.ext hN2.ext
  have hB2 : Blk w2 _ _ [_, _, _] := hN2.blk
  refine WL_q rfl (ev_assign rfl) ?_
  refine WL_q rfl (ev_assign rfl) ?_
  refine WL_nil ?_
  refine thenE_n ?_
  refine W_seq ?_
  refine W_seq ?_
  refine W_region ?_
  refine WL_q rfl (ev_loads st31 sz31 rfl (cellsB hB2) rfl) ?_
  refine WL_m rfl (ev_call rfl (IsNetwork_spec _ A _ hA (by omega) (by omega))) ?_
  rintro _ w11 ⟨b11, rfl, hb11, hE11⟩
  have hz11 := hE11.size
  replace hE := hE.trans hE11
  replace hA := hA.ext hE11
  replace hB2 := hB2.ext hE11
  refine WL_q rfl (ev_not rfl) ?_
  refine WL_q rfl (ev_move rfl) ?_
  refine WL_splitv (t := 13) rfl (fun hg12 => ?_) (fun hg12 => ?_)
  · have hg11 := not_true hg12
    have hp11 := ttN hb11 hg11
    refine WL_no rfl rfl hg12 rfl ?_
    refine WL_no rfl rfl hg12 rfl ?_
    refine WL_no rfl rfl hg12 rfl ?_
    refine WL_no rfl rfl hg12 rfl ?_
    refine WL_q rfl (ev_pick_t rfl hg12 rfl) ?_
    refine WL_nil ?_
    refine thenE_n ?_
    refine W_cond_t rfl ?_
    refine W_seq ?_
    refine W_region ?_
    refine WL_q rfl (ev_assign rfl) ?_
    refine WL_q rfl (ev_assign rfl) ?_
    refine WL_nil ?_
    refine thenE_n ?_
    refine W_ret ?_
    refine thenE_r ?_
    refine ret2 rfl rfl rfl ?_
    first | (exact ⟨none, 0, [], _, rfl, .no (fun h => hp11 h.1), OwnH.nil, by simp, hE⟩) | (exact ⟨none, 0, [], _, rfl, .no (fun h => hp16 h.2), OwnH.nil, by simp, hE⟩) | (have hi9 : i = (spanL A.ends (bfs A.ends v)).length := (by omega); subst hi9; exact ⟨_, _, _, _, rfl, .yes ⟨hp11, hp16⟩ rfl, by rw [List.take_length] at hO; exact hO.up (by omega) (Nat.le_refl _), by omega, hE⟩)
  · have hg11 := not_false hg12
    have hp11 := hb11.1 hg11
    refine WL_qg rfl rfl hg12 rfl (ev_loads st31 sz31 rfl (cellsB hB2) rfl) ?_
    refine WL_qg rfl rfl hg12 rfl (ev_move rfl) ?_
    refine WL_mg rfl rfl hg12 rfl (ev_call rfl (hasNode_spec _ A _ _ (by omega))) ?_
    rintro _ w16 ⟨b16, rfl, hb16, hE16⟩
    have hz16 := hE16.size
    replace hE := hE.trans hE16
    replace hA := hA.ext hE16
    replace hB2 := hB2.ext hE16
    refine WL_qg rfl rfl hg12 rfl (ev_not rfl) ?_
    refine WL_q rfl (ev_pick_f rfl hg12 rfl) ?_
    refine WL_nil ?_
    refine thenE_n ?_
    refine W_cond rfl (fun hg17 => ?_) (fun hg17 => ?_)
    · have hg16 := not_true hg17
      have hp16 := ttN hb16 hg16
      refine W_seq ?_
      refine W_region ?_
      refine WL_q rfl (ev_assign rfl) ?_
      refine WL_q rfl (ev_assign rfl) ?_
      refine WL_nil ?_
      refine thenE_n ?_
      refine W_ret ?_
      refine thenE_r ?_
      refine ret2 rfl rfl rfl ?_
      first | (exact ⟨none, 0, [], _, rfl, .no (fun h => hp11 h.1), OwnH.nil, by simp, hE⟩) | (exact ⟨none, 0, [], _, rfl, .no (fun h => hp16 h.2), OwnH.nil, by simp, hE⟩) | (have hi9 : i = (spanL A.ends (bfs A.ends v)).length := (by omega); subst hi9; exact ⟨_, _, _, _, rfl, .yes ⟨hp11, hp16⟩ rfl, by rw [List.take_length] at hO; exact hO.up (by omega) (Nat.le_refl _), by omega, hE⟩)
    · have hg16 := not_false hg17
      have hp16 := hb16.1 hg16
      refine W_skip ?_
      refine thenE_n ?_
      refine W_seq ?_
      refine W_region ?_
      refine WL_q rfl (ev_loads st31 sz31 rfl (cellsB hB2) rfl) ?_
      refine WL_q rfl (ev_move rfl) ?_
      have hk := hp11.endsOk
      have hv1 := hp16.1
      have hv2 := hp16.2
      have hl0 := bfs_len hk hv1 hv2
      have hnd := hp11.nodes
      have hdr : ∀ x ∈ bfs A.ends v, -1 ≤ x ∧ x ≤ 40 := fun x hx => by have := bfs_rng hk hv1 hv2 x hx; omega
      refine WL_m rfl (ev_call rfl (dist_spec _ A _ _ hA (by omega) (by omega) (by assumption) (by omega))) ?_
      rintro _ w21 ⟨a21, c21, rfl, hO21, hE21⟩
      have hz21 := hE21.size
      replace hE := hE.trans hE21
      replace hA := hA.ext hE21
      replace hB2 := hB2.ext hE21
      have hI21 := own_i hO21
      refine WL_m rfl (ev_alloc zr23) ?_
      rintro _ w6 ⟨rfl, hN6⟩
      have hz6 := hN6.size
      replace hE := hE.trans hN6.ext
      replace hA := hA.ext hN6.ext
      replace hB2 := hB2.ext hN6.ext
      replace hI21 := hI21.ext hN6.ext
      have hB6 : Blk w6 _ _ [_] := hN6.blk
      refine WL_s (ev_store sz23 rfl rfl rfl hB6 (by simp)) ?_
      rintro _ w3_4 hS3_4
      have hz3_4 := hS3_4.size
      replace hE := hE.sto hS3_4 (by omega)
      replace hA := hA.sto hS3_4 (by omega)
      replace hB2 := hB2.sto hS3_4 (by omega)
      replace hI21 := hI21.sto hS3_4 (by omega)
      replace hB6 : Blk w3_4 _ _ [_] := hS3_4.blk
      refine WL_nil ?_
      refine thenE_n ?_
      refine W_seq ?_
      refine W_region ?_
      refine WL_q rfl (ev_assign rfl) ?_
      refine WL_nil ?_
      refine thenE_n ?_
      refine W_seq ?_
      refine W_seq ?_
      refine W_region ?_
      refine WL_q rfl (ev_fieldAddr fo31_0 rfl) ?_
      refine WL_q rfl (ev_load one29 rfl (hB2.cell rfl)) ?_
      refine WL_q rfl (ev_len Try.underlying29 rfl) ?_
      refine WL_q rfl (ev_move rfl) ?_
      refine WL_nil ?_
      refine thenE_n ?_
      refine W_block ?_
      refine W_loopC (G := Nat × Option Addr × Nat) [(6, _), (23, _), (24, _)] ((Subs.c rfl (Subs.c rfl (Subs.c rfl Subs.n)))) (fun ⟨i, a, c⟩ => [(7, .slice a i c), (25, VI (i : Int))]) (fun ⟨i, a, c⟩ w' => Ext w3_4 w' ∧ i ≤ A.ends.length ∧ OwnH w3_4.heap.size w'.heap.size 0 0 w' 3 1 a i c (((spanL A.ends (bfs A.ends v)).take i).map VI)) (fun g => A.ends.length - g.1) (0, none, 0) ((Subs.c rfl (Subs.c (lkI rfl (by omega)) Subs.n))) (⟨Ext.refl _, ⟨by omega, OwnH.nil⟩⟩) ?_
      rintro ⟨i, a, c⟩ wL0 ⟨hRL0, hi', hO⟩
      have hzL0 := hRL0.size
      replace hE := hE.trans hRL0
      replace hA := hA.ext hRL0
      replace hB2 := hB2.ext hRL0
      replace hI21 := hI21.ext hRL0
      replace hB6 := hB6.ext hRL0
      refine W_seq ?_
      refine W_region ?_
      refine WL_q rfl (ev_lss rfl rfl) ?_
      refine WL_nil ?_
      refine thenE_n ?_
      refine W_seq ?_
      refine W_cond rfl (fun hg26 => ?_) (fun hg26 => ?_)
      · have hp26 := of_decide_eq_true hg26
        refine W_skip ?_
        refine thenE_n ?_
        refine W_seq ?_
        refine W_block ?_
        refine W_seq ?_
        refine W_region ?_
        refine WL_q rfl (ev_move rfl) ?_
        have hlt : i < A.ends.length := by omega
        have hl28 : i < A.ends.length := by omega
        have ht28 := totL_le hl28
        obtain ⟨a28, c28, hc28, hr28⟩ := hA.ends.row hl28
        refine WL_q rfl (ev_indexAddr Try.underlying29 sz65 rfl rfl (hA.ends.isSome (by omega)) (by omega) (by omega)) ?_
        refine WL_q rfl (ev_load one65 rfl (hc28)) ?_
        refine WL_m rfl (ev_alloc zr3) ?_
        rintro _ w8 ⟨rfl, hN8⟩
        have hz8 := hN8.size
        replace hE := hE.trans hN8.ext
        replace hRL0 := hRL0.trans hN8.ext
        replace hA := hA.ext hN8.ext
        replace hB2 := hB2.ext hN8.ext
        replace hI21 := hI21.ext hN8.ext
        replace hB6 := hB6.ext hN8.ext
        replace hO := hO.ext hN8.ext
        replace hr28 := hr28.ext hN8.ext
        have hB8 : Blk w8 _ _ [_] := hN8.blk
        refine WL_s (ev_store sz3 rfl rfl rfl hB8 (by simp)) ?_
        rintro _ w7_4 hS7_4
        have hz7_4 := hS7_4.size
        replace hE := hE.sto hS7_4 (by omega)
        replace hRL0 := hRL0.sto hS7_4 (by omega)
        replace hA := hA.sto hS7_4 (by omega)
        replace hB2 := hB2.sto hS7_4 (by omega)
        replace hI21 := hI21.sto hS7_4 (by omega)
        replace hB6 := hB6.sto hS7_4 (by omega)
        replace hO := hO.sto hS7_4 (by omega)
        replace hr28 := hr28.sto hS7_4 (by omega)
        replace hB8 : Blk w7_4 _ _ [_] := hS7_4.blk
        refine WL_q rfl (ev_assign rfl) ?_
        refine WL_nil ?_
        refine thenE_n ?_
        refine W_region ?_
        refine WL_q rfl (ev_move rfl) ?_
        refine WL_q rfl (ev_move rfl) ?_
        refine WL_q rfl (ev_makeFunc rfl rfl) ?_
        refine WL_m rfl (ev_call rfl (IndexFunc_end _ _ (A.ends[i]) _ [_, _] (fun e : Int × Int => twp (bfs A.ends v) i e.1) _ hr28 (by omega) (fun u hu w1 hw => Span_1 _ _ _ _ _ (bfs A.ends v) _ _ _ i w1 (hB6.ext hw) (hB8.ext hw) hl0.symm (hI21.ext hw) (by omega) (by have := hk.at hlt hu; omega) hdr))) ?_
        rintro _ w33 ⟨rfl, hE33⟩
        have hz33 := hE33.size
        replace hE := hE.trans hE33
        replace hRL0 := hRL0.trans hE33
        replace hA := hA.ext hE33
        replace hB2 := hB2.ext hE33
        replace hI21 := hI21.ext hE33
        replace hB6 := hB6.ext hE33
        replace hO := hO.ext hE33
        replace hr28 := hr28.ext hE33
        replace hB8 := hB8.ext hE33
        refine WL_m rfl (ev_lit1 Try.underlying23 el3 (by decide) (by decide) rfl rfl) ?_
        rintro _ w34 ⟨rfl, hN34⟩
        have hz34 := hN34.size
        replace hE := hE.trans hN34.ext
        replace hRL0 := hRL0.trans hN34.ext
        replace hA := hA.ext hN34.ext
        replace hB2 := hB2.ext hN34.ext
        replace hI21 := hI21.ext hN34.ext
        replace hB6 := hB6.ext hN34.ext
        replace hO := hO.ext hN34.ext
        replace hr28 := hr28.ext hN34.ext
        replace hB8 := hB8.ext hN34.ext
        have hB34 := hN34.blk
        refine WL_m rfl (ev_appendT Try.underlying23 el3 rfl (by decide) rfl rfl hO (SAt.of_blk (cs := [_]) (ds := []) hB34) rfl (by simp [Value.oneCell']) (by omega) (by unfold maxLen; omega) (by omega)) ?_
        rintro _ w35 ⟨a35, c35, rfl, hO35, hK35, hQ35⟩
        have hz35 := hK35.size
        replace hE := hE.rg hK35 (by omega)
        replace hRL0 := hRL0.rg hK35 (by omega)
        replace hA := hA.rg hK35 (by omega)
        replace hB2 := hB2.rg hK35 (by omega)
        replace hI21 := hI21.rg hK35 (by omega)
        replace hB6 := hB6.rg hK35 (by omega)
        replace hr28 := hr28.rg hK35 (by omega)
        replace hB8 := hB8.rg hK35 (by omega)
        replace hB34 := hB34.rg hK35 (by omega)
        replace hO := hO35
        replace hO := ownt_snocI hO
        refine WL_q rfl (ev_assign rfl) ?_
        refine WL_nil ?_
        refine blockE_n ?_
        refine thenE_n ?_
        refine W_region ?_
        refine WL_q rfl (ev_add rfl rfl (by omega)) ?_
        refine WL_q rfl (ev_move rfl) ?_
        refine WL_nil ?_
        refine thenE_n ?_
        exact ⟨(i + 1, a35, c35), (Subs.c rfl (Subs.c rfl (Subs.c rfl Subs.n))), (Subs.c rfl (Subs.c (lkI rfl (by omega)) Subs.n)), ⟨hRL0, ⟨by omega, (ownt_take hO (by omega) ((spanL_at (by omega)).trans (twd_row hlt))).up (Nat.le_refl _) (by omega)⟩⟩, by first | omega | (dsimp only; omega)⟩
      · have hp26 := of_decide_eq_false hg26
        refine W_exit ?_
        refine thenE_x ?_
        refine thenE_x ?_
        refine blockE_hit ?_
        refine thenE_n ?_
        refine W_seq ?_
        refine W_region ?_
        refine WL_q rfl (ev_move rfl) ?_
        refine WL_q rfl (ev_assign rfl) ?_
        refine WL_q rfl (ev_assign rfl) ?_
        refine WL_nil ?_
        refine thenE_n ?_
        refine W_ret ?_
        refine ret2 rfl rfl rfl ?_
        first | (exact ⟨none, 0, [], _, rfl, .no (fun h => hp11 h.1), OwnH.nil, by simp, hE⟩) | (exact ⟨none, 0, [], _, rfl, .no (fun h => hp16 h.2), OwnH.nil, by simp, hE⟩) | (have hi9 : i = (spanL A.ends (bfs A.ends v)).length := (by omega); subst hi9; exact ⟨_, _, _, _, rfl, .yes ⟨hp11, hp16⟩ rfl, by rw [List.take_length] at hO; exact hO.up (by omega) (Nat.le_refl _), by omega, hE⟩)

set_option maxRecDepth 100000 in
theorem law_SpanningTree (nA : NA) (A : Net) (v : Int) (w : World) (hA : IsNet 0 w.heap.size w nA A) (hsA : SmN A) (hiv : I64 v) :
    Fn Try.prog 8 #[netV nA A, VI v] w (fun v w' => v = VB true ∧ Ext w w') := by
  have hE := Ext.refl w
  refine Fn_of Try.func8 rfl rfl (by kernel_rfl) rfl ?_
  refine W_seq ?_
  refine W_region ?_
  refine WL_m rfl (ev_box rfl) ?_
  rintro _ w2 ⟨rfl, hN2⟩
  have hz2 := hN2.size
  replace hE := hE.trans hN2.ext
  replace hA := hA.ext hN2.ext
  have hB2 : Blk w2 _ _ [_, _, _] := hN2.blk
  refine WL_q rfl (ev_assign rfl) ?_
  refine WL_nil ?_
  refine thenE_n ?_
  refine W_seq ?_
  refine W_region ?_
  refine WL_q rfl (ev_assign rfl) ?_
  refine WL_nil ?_
  refine thenE_n ?_
  refine W_seq ?_
  refine W_region ?_
  refine WL_q rfl (ev_loads st25 sz25 rfl (cellsB hB2) rfl) ?_
  refine WL_q rfl (ev_move rfl) ?_
  refine WL_m rfl (ev_call rfl (szNetwork_spec _ A _ _ hA (by omega) hsA)) ?_
  rintro _ w18 ⟨r18, rfl, hE18, hr18⟩
  have hz18 := hE18.size
  replace hE := hE.trans hE18
  replace hA := hA.ext hE18
  replace hB2 := hB2.ext hE18
  refine WL_q rfl (ev_assign rfl) ?_
  refine WL_nil ?_
  refine thenE_n ?_
  refine W_seq ?_
  refine W_seq ?_
  refine W_region ?_
  refine WL_q rfl (ev_move rfl) ?_
  refine WL_q rfl (ev_lss rfl rfl) ?_
  refine WL_nil ?_
  refine thenE_n ?_
  refine W_cond rfl (fun hg20 => ?_) (fun hg20 => ?_)
  · have hp20 := of_decide_eq_true hg20
    refine W_seq ?_
    refine W_region ?_
    refine WL_q rfl (ev_assign rfl) ?_
    refine WL_nil ?_
    refine thenE_n ?_
    refine W_ret ?_
    refine thenE_r ?_
    refine ret1 rfl rfl ?_
    first | (exact ⟨rfl, hE⟩) | (exact (tfX hg20).elim) | (exact (decF hg20).elim) | (exfalso; omega)
  · have hp20 := of_decide_eq_false hg20
    refine W_skip ?_
    refine thenE_n ?_
    refine W_seq ?_
    refine W_region ?_
    refine WL_q rfl (ev_loads st25 sz25 rfl (cellsB hB2) rfl) ?_
    refine WL_m rfl (ev_call rfl (toNetwork_spec _ A _ hA (by omega) (by omega))) ?_
    rintro _ w23 ⟨h23, rfl, hF23, hE23⟩
    have hz23 := hE23.size
    replace hE := hE.trans hE23
    replace hA := hA.ext hE23
    replace hB2 := hB2.ext hE23
    have hN23 := hF23.is
    refine WL_q rfl (ev_move rfl) ?_
    refine WL_m rfl (ev_call rfl (sSpanningTree_spec _ A _ _ hN23 (by omega) (by omega))) ?_
    rintro _ w25 ⟨a25, c25, y25, q25, rfl, hr25, hx25, hl25, hE25⟩
    have hz25 := hE25.size
    replace hE := hE.trans hE25
    replace hA := hA.ext hE25
    replace hB2 := hB2.ext hE25
    replace hF23 := hF23.ext hE25
    replace hN23 := hN23.ext hE25
    refine WL_q rfl (ev_move rfl) ?_
    refine WL_q rfl (ev_extract rfl rfl) ?_
    refine WL_q rfl (ev_extract rfl rfl) ?_
    refine WL_q rfl (ev_assign rfl) ?_
    refine WL_q rfl (ev_assign rfl) ?_
    refine WL_nil ?_
    refine thenE_n ?_
    refine W_seq ?_
    refine W_region ?_
    refine WL_q rfl (ev_loads st25 sz25 rfl (cellsB hB2) rfl) ?_
    refine WL_m rfl (ev_call rfl (toNetwork_spec _ A _ hA (by omega) (by omega))) ?_
    rintro _ w29 ⟨h29, rfl, hF29, hE29⟩
    have hz29 := hE29.size
    replace hE := hE.trans hE29
    replace hA := hA.ext hE29
    replace hB2 := hB2.ext hE29
    replace hF23 := hF23.ext hE29
    replace hN23 := hN23.ext hE29
    replace hx25 := hx25.ext hE29
    have hN29 := hF29.is
    refine WL_m rfl (ev_alloc zr31) ?_
    rintro _ w8 ⟨rfl, hN8⟩
    have hz8 := hN8.size
    replace hE := hE.trans hN8.ext
    replace hA := hA.ext hN8.ext
    replace hB2 := hB2.ext hN8.ext
    replace hF23 := hF23.ext hN8.ext
    replace hN23 := hN23.ext hN8.ext
    replace hx25 := hx25.ext hN8.ext
    replace hF29 := hF29.ext hN8.ext
    replace hN29 := hN29.ext hN8.ext
    have hB8 : Blk w8 _ _ [_, _, _] := hN8.blk
    refine WL_s (ev_stores sz31 rfl rfl rfl (by simp [Value.oneCell']) hB8 (by simp)) ?_
    rintro _ w6_3 hS6_3
    have hz6_3 := hS6_3.size
    replace hE := hE.sto hS6_3 (by omega)
    replace hA := hA.sto hS6_3 (by omega)
    replace hB2 := hB2.sto hS6_3 (by omega)
    replace hF23 := hF23.sto hS6_3 (by omega)
    replace hN23 := hN23.sto hS6_3 (by omega)
    replace hx25 := hx25.sto hS6_3 (by omega)
    replace hF29 := hF29.sto hS6_3 (by omega)
    replace hN29 := hN29.sto hS6_3 (by omega)
    replace hB8 : Blk w6_3 _ _ [_, _, _] := hS6_3.blk
    refine WL_nil ?_
    refine thenE_n ?_
    refine W_seq ?_
    refine W_region ?_
    refine WL_q rfl (ev_loads st31 sz31 rfl (cellsB hB8) rfl) ?_
    refine WL_q rfl (ev_move rfl) ?_
    refine WL_m rfl (ev_call rfl (SpanningTree_spec _ A _ _ hN29 (by omega) (by omega))) ?_
    rintro _ w33 ⟨a33, c33, y33, q33, rfl, hr33, hO33, hl33, hE33⟩
    have hz33 := hE33.size
    replace hE := hE.trans hE33
    replace hA := hA.ext hE33
    replace hB2 := hB2.ext hE33
    replace hF23 := hF23.ext hE33
    replace hN23 := hN23.ext hE33
    replace hx25 := hx25.ext hE33
    replace hF29 := hF29.ext hE33
    replace hN29 := hN29.ext hE33
    replace hB8 := hB8.ext hE33
    refine WL_q rfl (ev_move rfl) ?_
    refine WL_q rfl (ev_extract rfl rfl) ?_
    refine WL_q rfl (ev_extract rfl rfl) ?_
    refine WL_q rfl (ev_assign rfl) ?_
    refine WL_q rfl (ev_assign rfl) ?_
    refine WL_nil ?_
    refine thenE_n ?_
    refine W_seq ?_
    refine W_seq ?_
    refine W_region ?_
    refine WL_q rfl (ev_move rfl) ?_
    refine WL_q rfl (ev_move rfl) ?_
    refine WL_m rfl (ev_call rfl (eqIntS_spec _ _ _ _ y33 y25 _ (ownt_i hO33) hx25 (by omega))) ?_
    rintro _ w38 ⟨rfl, hE38⟩
    have hz38 := hE38.size
    replace hE := hE.trans hE38
    replace hA := hA.ext hE38
    replace hB2 := hB2.ext hE38
    replace hF23 := hF23.ext hE38
    replace hN23 := hN23.ext hE38
    replace hx25 := hx25.ext hE38
    replace hF29 := hF29.ext hE38
    replace hN29 := hN29.ext hE38
    replace hB8 := hB8.ext hE38
    replace hO33 := hO33.ext hE38
    refine WL_q rfl (ev_not rfl) ?_
    refine WL_q rfl (ev_move rfl) ?_
    refine WL_splitv (t := 40) rfl (fun hg39 => ?_) (fun hg39 => ?_)
    · have hg38 := not_true hg39
      refine WL_no rfl rfl hg39 rfl ?_
      refine WL_no rfl rfl hg39 rfl ?_
      refine WL_no rfl rfl hg39 rfl ?_
      refine WL_q rfl (ev_pick_t rfl hg39 rfl) ?_
      refine WL_nil ?_
      refine thenE_n ?_
      refine W_cond_t rfl ?_
      refine W_seq ?_
      refine W_region ?_
      refine WL_q rfl (ev_assign rfl) ?_
      refine WL_nil ?_
      refine thenE_n ?_
      refine W_ret ?_
      refine thenE_r ?_
      refine ret1 rfl rfl ?_
      first | (exact ⟨rfl, hE⟩) | (exact (bneE hg38 (hr33.det1 hr25)).elim) | (exact absurd (hr33.det1 hr25) hp38) | (exact absurd (hr33.det1 hr25) (of_decide_eq_false hg38)) | (exact (bneE hg38 (hr33.det2 hr25)).elim) | (exact absurd (hr33.det2 hr25) hp38) | (exact absurd (hr33.det2 hr25) (of_decide_eq_false hg38)) | (exact (bneE hg38 (hr33.det3 hr25)).elim) | (exact absurd (hr33.det3 hr25) hp38) | (exact absurd (hr33.det3 hr25) (of_decide_eq_false hg38)) | (exact (tfX hg38).elim) | (exact (decF hg38).elim) | (exfalso; omega)
    · have hg38 := not_false hg39
      refine WL_qg rfl rfl hg39 rfl (ev_move rfl) ?_
      refine WL_qg rfl rfl hg39 rfl (ev_move rfl) ?_
      refine WL_qg rfl rfl hg39 rfl (ev_neq_b Try.underlying4 rfl rfl) ?_
      refine WL_q rfl (ev_pick_f rfl hg39 rfl) ?_
      refine WL_nil ?_
      refine thenE_n ?_
      refine W_cond rfl (fun hg43 => ?_) (fun hg43 => ?_)
      · refine W_seq ?_
        refine W_region ?_
        refine WL_q rfl (ev_assign rfl) ?_
        refine WL_nil ?_
        refine thenE_n ?_
        refine W_ret ?_
        refine thenE_r ?_
        refine ret1 rfl rfl ?_
        first | (exact ⟨rfl, hE⟩) | (exact (bneE hg43 (hr33.det1 hr25)).elim) | (exact absurd (hr33.det1 hr25) hp43) | (exact absurd (hr33.det1 hr25) (of_decide_eq_false hg43)) | (exact (bneE hg43 (hr33.det2 hr25)).elim) | (exact absurd (hr33.det2 hr25) hp43) | (exact absurd (hr33.det2 hr25) (of_decide_eq_false hg43)) | (exact (bneE hg43 (hr33.det3 hr25)).elim) | (exact absurd (hr33.det3 hr25) hp43) | (exact absurd (hr33.det3 hr25) (of_decide_eq_false hg43)) | (exact (tfX hg43).elim) | (exact (decF hg43).elim) | (exfalso; omega)
      · refine W_skip ?_
        refine thenE_n ?_
        refine W_seq ?_
        refine W_seq ?_
        refine W_drawE [(0, true), (1, true), (2, false), (3, false), (4, true)] mixed (by kernel_rfl) rfl (by kernel_rfl) ?_
        intro wd10 hEd10 hzd10
        replace hE := hE.trans hEd10
        replace hA := hA.ext hEd10
        replace hB2 := hB2.ext hEd10
        replace hF23 := hF23.ext hEd10
        replace hN23 := hN23.ext hEd10
        replace hx25 := hx25.ext hEd10
        replace hF29 := hF29.ext hEd10
        replace hN29 := hN29.ext hEd10
        replace hB8 := hB8.ext hEd10
        replace hO33 := hO33.ext hEd10
        have hDd10 := Ext.refl wd10
        refine PW_q rfl rfl (fun wq hq => ev_loads st31 sz31 rfl (cellsB (hq.blk hB8)) rfl) ?_
        refine PW_q rfl rfl (fun wq hq => ev_loads st25 sz25 rfl (cellsB (hq.blk hB2)) rfl) ?_
        refine PW_m rfl rfl (ev_call rfl (toNetwork_spec _ A _ hA (by omega) (by omega))) ?_
        rintro _ w47 ⟨h47, rfl, hF47, hE47⟩
        have hz47 := hE47.size
        replace hE := hE.trans hE47
        replace hDd10 := hDd10.trans hE47
        have hN47 := hF47.is
        refine ⟨hDd10, ?_⟩
        have hA_3 := hA.ext hDd10
        have hB2_3 := hB2.ext hDd10
        have hF23_3 := hF23.ext hDd10
        have hN23_3 := hN23.ext hDd10
        have hx25_3 := hx25.ext hDd10
        have hF29_3 := hF29.ext hDd10
        have hN29_3 := hN29.ext hDd10
        have hB8_3 := hB8.ext hDd10
        have hO33_3 := hO33.ext hDd10
        refine PW_m rfl rfl (ev_call rfl (eqNetwork_spec _ _ A _ hN29_3 hN47 (by omega))) ?_
        rintro _ w48 ⟨rfl, hE48⟩
        have hz48 := hE48.size
        replace hE := hE.trans hE48
        replace hDd10 := hDd10.trans hE48
        replace hF47 := hF47.ext hE48
        replace hN47 := hN47.ext hE48
        refine ⟨hDd10, ?_⟩
        refine PW_q rfl rfl (fun wq hq => ev_not rfl) ?_
        replace hA := hA.ext hDd10
        replace hB2 := hB2.ext hDd10
        replace hF23 := hF23.ext hDd10
        replace hN23 := hN23.ext hDd10
        replace hx25 := hx25.ext hDd10
        replace hF29 := hF29.ext hDd10
        replace hN29 := hN29.ext hDd10
        replace hB8 := hB8.ext hDd10
        replace hO33 := hO33.ext hDd10
        refine PW_nil ?_
        refine thenE_n ?_
        refine W_cond rfl (fun hg49 => ?_) (fun hg49 => ?_)
        · have hg48 := not_true hg49
          refine W_seq ?_
          refine W_region ?_
          refine WL_q rfl (ev_assign rfl) ?_
          refine WL_nil ?_
          refine thenE_n ?_
          refine W_ret ?_
          refine thenE_r ?_
          refine ret1 rfl rfl ?_
          first | (exact ⟨rfl, hE⟩) | (exact (bneE hg48 (hr33.det1 hr25)).elim) | (exact absurd (hr33.det1 hr25) hp48) | (exact absurd (hr33.det1 hr25) (of_decide_eq_false hg48)) | (exact (bneE hg48 (hr33.det2 hr25)).elim) | (exact absurd (hr33.det2 hr25) hp48) | (exact absurd (hr33.det2 hr25) (of_decide_eq_false hg48)) | (exact (bneE hg48 (hr33.det3 hr25)).elim) | (exact absurd (hr33.det3 hr25) hp48) | (exact absurd (hr33.det3 hr25) (of_decide_eq_false hg48)) | (exact (tfX hg48).elim) | (exact (decF hg48).elim) | (exfalso; omega)
        · have hg48 := not_false hg49
          refine W_skip ?_
          refine thenE_n ?_
          refine W_seq ?_
          refine W_region ?_
          refine WL_q rfl (ev_assign rfl) ?_
          refine WL_nil ?_
          refine thenE_n ?_
          refine W_seq ?_
          refine W_region ?_
          refine WL_q rfl (ev_loads st31 sz31 rfl (cellsB hB8) rfl) ?_
          refine WL_q rfl (ev_move rfl) ?_
          refine WL_m rfl (ev_call rfl (markNetwork_spec _ A _ _ hF29 (by omega) (by omega) (by omega))) ?_
          rintro _ w52 ⟨r52, rfl, hr52, hK52⟩
          have hz52 := hK52.size
          replace hE := hE.mrk hK52 (by omega)
          replace hA := hA.mrk hK52 (by omega)
          replace hB2 := hB2.mrk hK52 (by omega)
          replace hF23 := hF23.mrk hK52 (by omega)
          replace hN23 := hN23.mrk hK52 (by omega)
          replace hx25 := hx25.mrk hK52 (by omega)
          replace hB8 := hB8.mrk hK52 (by omega)
          replace hO33 := hO33.mrk hK52 (by omega)
          replace hF47 := hF47.mrk hK52 (by omega)
          replace hN47 := hN47.mrk hK52 (by omega)
          refine WL_q rfl (ev_assign rfl) ?_
          refine WL_nil ?_
          refine thenE_n ?_
          refine W_seq ?_
          refine W_seq ?_
          refine W_region ?_
          refine WL_q rfl (ev_move rfl) ?_
          refine WL_q rfl (ev_lss rfl rfl) ?_
          refine WL_q rfl (ev_move rfl) ?_
          refine WL_splitv (t := 55) rfl (fun hg54 => ?_) (fun hg54 => ?_)
          · have hp54 := of_decide_eq_true hg54
            refine WL_no rfl rfl hg54 rfl ?_
            refine WL_no rfl rfl hg54 rfl ?_
            refine WL_no rfl rfl hg54 rfl ?_
            refine WL_no rfl rfl hg54 rfl ?_
            refine WL_q rfl (ev_pick_t rfl hg54 rfl) ?_
            refine WL_q rfl (ev_move rfl) ?_
            refine WL_no rfl rfl rfl rfl ?_
            refine WL_no rfl rfl rfl rfl ?_
            refine WL_no rfl rfl rfl rfl ?_
            refine WL_q rfl (ev_pick_t rfl rfl rfl) ?_
            refine WL_nil ?_
            refine thenE_n ?_
            refine W_cond_t rfl ?_
            refine W_seq ?_
            refine W_region ?_
            refine WL_q rfl (ev_assign rfl) ?_
            refine WL_nil ?_
            refine thenE_n ?_
            refine W_ret ?_
            refine thenE_r ?_
            refine ret1 rfl rfl ?_
            first | (exact ⟨rfl, hE⟩) | (exact (bneE hg54 (hr33.det1 hr25)).elim) | (exact absurd (hr33.det1 hr25) hp54) | (exact absurd (hr33.det1 hr25) (of_decide_eq_false hg54)) | (exact (bneE hg54 (hr33.det2 hr25)).elim) | (exact absurd (hr33.det2 hr25) hp54) | (exact absurd (hr33.det2 hr25) (of_decide_eq_false hg54)) | (exact (bneE hg54 (hr33.det3 hr25)).elim) | (exact absurd (hr33.det3 hr25) hp54) | (exact absurd (hr33.det3 hr25) (of_decide_eq_false hg54)) | (exact (tfX hg54).elim) | (exact (decF hg54).elim) | (exfalso; omega)
          · have hp54 := of_decide_eq_false hg54
            refine WL_qg rfl rfl hg54 rfl (ev_move rfl) ?_
            refine WL_qg rfl rfl hg54 rfl (ev_move rfl) ?_
            refine WL_mg rfl rfl hg54 rfl (ev_call rfl (eqIntS_spec _ _ _ _ y33 y25 _ (ownt_i hO33) hx25 (by omega))) ?_
            rintro _ w58 ⟨rfl, hE58⟩
            have hz58 := hE58.size
            replace hE := hE.trans hE58
            replace hA := hA.ext hE58
            replace hB2 := hB2.ext hE58
            replace hF23 := hF23.ext hE58
            replace hN23 := hN23.ext hE58
            replace hx25 := hx25.ext hE58
            replace hB8 := hB8.ext hE58
            replace hO33 := hO33.ext hE58
            replace hF47 := hF47.ext hE58
            replace hN47 := hN47.ext hE58
            refine WL_qg rfl rfl hg54 rfl (ev_not rfl) ?_
            refine WL_q rfl (ev_pick_f rfl hg54 rfl) ?_
            refine WL_q rfl (ev_move rfl) ?_
            refine WL_splitv (t := 61) rfl (fun hg59 => ?_) (fun hg59 => ?_)
            · have hg58 := not_true hg59
              refine WL_no rfl rfl hg59 rfl ?_
              refine WL_no rfl rfl hg59 rfl ?_
              refine WL_no rfl rfl hg59 rfl ?_
              refine WL_q rfl (ev_pick_t rfl hg59 rfl) ?_
              refine WL_nil ?_
              refine thenE_n ?_
              refine W_cond_t rfl ?_
              refine W_seq ?_
              refine W_region ?_
              refine WL_q rfl (ev_assign rfl) ?_
              refine WL_nil ?_
              refine thenE_n ?_
              refine W_ret ?_
              refine thenE_r ?_
              refine ret1 rfl rfl ?_
              first | (exact ⟨rfl, hE⟩) | (exact (bneE hg58 (hr33.det1 hr25)).elim) | (exact absurd (hr33.det1 hr25) hp58) | (exact absurd (hr33.det1 hr25) (of_decide_eq_false hg58)) | (exact (bneE hg58 (hr33.det2 hr25)).elim) | (exact absurd (hr33.det2 hr25) hp58) | (exact absurd (hr33.det2 hr25) (of_decide_eq_false hg58)) | (exact (bneE hg58 (hr33.det3 hr25)).elim) | (exact absurd (hr33.det3 hr25) hp58) | (exact absurd (hr33.det3 hr25) (of_decide_eq_false hg58)) | (exact (tfX hg58).elim) | (exact (decF hg58).elim) | (exfalso; omega)
            · have hg58 := not_false hg59
              refine WL_qg rfl rfl hg59 rfl (ev_move rfl) ?_
              refine WL_qg rfl rfl hg59 rfl (ev_move rfl) ?_
              refine WL_qg rfl rfl hg59 rfl (ev_neq_b Try.underlying4 rfl rfl) ?_
              refine WL_q rfl (ev_pick_f rfl hg59 rfl) ?_
              refine WL_nil ?_
              refine thenE_n ?_
              refine W_cond rfl (fun hg64 => ?_) (fun hg64 => ?_)
              · refine W_seq ?_
                refine W_region ?_
                refine WL_q rfl (ev_assign rfl) ?_
                refine WL_nil ?_
                refine thenE_n ?_
                refine W_ret ?_
                refine thenE_r ?_
                refine ret1 rfl rfl ?_
                first | (exact ⟨rfl, hE⟩) | (exact (bneE hg64 (hr33.det1 hr25)).elim) | (exact absurd (hr33.det1 hr25) hp64) | (exact absurd (hr33.det1 hr25) (of_decide_eq_false hg64)) | (exact (bneE hg64 (hr33.det2 hr25)).elim) | (exact absurd (hr33.det2 hr25) hp64) | (exact absurd (hr33.det2 hr25) (of_decide_eq_false hg64)) | (exact (bneE hg64 (hr33.det3 hr25)).elim) | (exact absurd (hr33.det3 hr25) hp64) | (exact absurd (hr33.det3 hr25) (of_decide_eq_false hg64)) | (exact (tfX hg64).elim) | (exact (decF hg64).elim) | (exfalso; omega)
              · refine W_skip ?_
                refine thenE_n ?_
                refine W_seq ?_
                refine W_region ?_
                refine WL_q rfl (ev_assign rfl) ?_
                refine WL_nil ?_
                refine thenE_n ?_
                refine W_seq ?_
                refine W_region ?_
                refine WL_q rfl (ev_move rfl) ?_
                refine WL_q rfl (ev_move rfl) ?_
                refine WL_m rfl (ev_call rfl (markIntS_ownH hO33 (by omega) (by omega))) ?_
                rintro _ w68 ⟨rfl, hO68, hK68⟩
                have hz68 := hK68.size
                have hR68 := hK68
                replace hE := hE.rg hR68 (by omega)
                replace hA := hA.rg hR68 (by omega)
                replace hB2 := hB2.rg hR68 (by omega)
                replace hF23 := hF23.rg hR68 (by omega)
                replace hN23 := hN23.rg hR68 (by omega)
                replace hx25 := hx25.rg hR68 (by omega)
                replace hB8 := hB8.rg hR68 (by omega)
                replace hF47 := hF47.rg hR68 (by omega)
                replace hN47 := hN47.rg hR68 (by omega)
                replace hO33 := hO68
                refine WL_q rfl (ev_assign rfl) ?_
                refine WL_nil ?_
                refine thenE_n ?_
                refine W_seq ?_
                refine W_region ?_
                refine WL_q rfl (ev_assign rfl) ?_
                refine WL_nil ?_
                refine thenE_n ?_
                refine W_seq ?_
                refine W_region ?_
                refine WL_q rfl (ev_move rfl) ?_
                refine WL_q rfl (ev_move rfl) ?_
                refine WL_m rfl (ev_call rfl (heldIntS_spec _ _ (nums 1 y33.length) _ _ (Ints.of_own (nums_len _ _) hO33.1) rfl (by omega) (by omega))) ?_
                rintro _ w71 ⟨rfl, hE71⟩
                have hz71 := hE71.size
                replace hE := hE.trans hE71
                replace hA := hA.ext hE71
                replace hB2 := hB2.ext hE71
                replace hF23 := hF23.ext hE71
                replace hN23 := hN23.ext hE71
                replace hx25 := hx25.ext hE71
                replace hB8 := hB8.ext hE71
                replace hO33 := hO33.ext hE71
                replace hF47 := hF47.ext hE71
                replace hN47 := hN47.ext hE71
                refine WL_q rfl (ev_assign rfl) ?_
                refine WL_nil ?_
                refine thenE_n ?_
                refine W_seq ?_
                refine W_seq ?_
                refine W_region ?_
                refine WL_q rfl (ev_move rfl) ?_
                refine WL_q rfl (ev_lss rfl rfl) ?_
                refine WL_nil ?_
                refine thenE_n ?_
                refine W_cond rfl (fun hg73 => ?_) (fun hg73 => ?_)
                · have hp73 := of_decide_eq_true hg73
                  refine W_seq ?_
                  refine W_region ?_
                  refine WL_q rfl (ev_assign rfl) ?_
                  refine WL_nil ?_
                  refine thenE_n ?_
                  refine W_ret ?_
                  refine thenE_r ?_
                  refine ret1 rfl rfl ?_
                  first | (exact ⟨rfl, hE⟩) | (exact (bneE hg73 (hr33.det1 hr25)).elim) | (exact absurd (hr33.det1 hr25) hp73) | (exact absurd (hr33.det1 hr25) (of_decide_eq_false hg73)) | (exact (bneE hg73 (hr33.det2 hr25)).elim) | (exact absurd (hr33.det2 hr25) hp73) | (exact absurd (hr33.det2 hr25) (of_decide_eq_false hg73)) | (exact (bneE hg73 (hr33.det3 hr25)).elim) | (exact absurd (hr33.det3 hr25) hp73) | (exact absurd (hr33.det3 hr25) (of_decide_eq_false hg73)) | (exact (tfX hg73).elim) | (exact (decF hg73).elim) | (exfalso; omega)
                · have hp73 := of_decide_eq_false hg73
                  refine W_skip ?_
                  refine thenE_n ?_
                  refine W_seq ?_
                  refine W_seq ?_
                  refine W_region ?_
                  refine WL_q rfl (ev_move rfl) ?_
                  refine WL_q rfl (ev_move rfl) ?_
                  refine WL_q rfl (ev_neq rfl rfl) ?_
                  refine WL_nil ?_
                  refine thenE_n ?_
                  refine W_cond rfl (fun hg76 => ?_) (fun hg76 => ?_)
                  · have hp76 := of_decide_eq_true hg76
                    refine W_seq ?_
                    refine W_region ?_
                    refine WL_q rfl (ev_assign rfl) ?_
                    refine WL_nil ?_
                    refine thenE_n ?_
                    refine W_ret ?_
                    refine thenE_r ?_
                    refine ret1 rfl rfl ?_
                    first | (exact ⟨rfl, hE⟩) | (exact (bneE hg76 (hr33.det1 hr25)).elim) | (exact absurd (hr33.det1 hr25) hp76) | (exact absurd (hr33.det1 hr25) (of_decide_eq_false hg76)) | (exact (bneE hg76 (hr33.det2 hr25)).elim) | (exact absurd (hr33.det2 hr25) hp76) | (exact absurd (hr33.det2 hr25) (of_decide_eq_false hg76)) | (exact (bneE hg76 (hr33.det3 hr25)).elim) | (exact absurd (hr33.det3 hr25) hp76) | (exact absurd (hr33.det3 hr25) (of_decide_eq_false hg76)) | (exact (tfX hg76).elim) | (exact (decF hg76).elim) | (exfalso; omega)
                  · have hp76 := of_decide_eq_false hg76
                    refine W_skip ?_
                    refine thenE_n ?_
                    refine W_seq ?_
                    refine W_region ?_
                    refine WL_q rfl (ev_loads st25 sz25 rfl (cellsB hB2) rfl) ?_
                    refine WL_m rfl (ev_call rfl (toNetwork_spec _ A _ hA (by omega) (by omega))) ?_
                    rintro _ w79 ⟨h79, rfl, hF79, hE79⟩
                    have hz79 := hE79.size
                    replace hE := hE.trans hE79
                    replace hA := hA.ext hE79
                    replace hB2 := hB2.ext hE79
                    replace hF23 := hF23.ext hE79
                    replace hN23 := hN23.ext hE79
                    replace hx25 := hx25.ext hE79
                    replace hB8 := hB8.ext hE79
                    replace hO33 := hO33.ext hE79
                    replace hF47 := hF47.ext hE79
                    replace hN47 := hN47.ext hE79
                    have hN79 := hF79.is
                    refine WL_q rfl (ev_move rfl) ?_
                    refine WL_m rfl (ev_call rfl (SpanningTree_spec _ A _ _ hN79 (by omega) (by omega))) ?_
                    rintro _ w81 ⟨a81, c81, y81, q81, rfl, hr81, hO81, hl81, hE81⟩
                    have hz81 := hE81.size
                    replace hE := hE.trans hE81
                    replace hA := hA.ext hE81
                    replace hB2 := hB2.ext hE81
                    replace hF23 := hF23.ext hE81
                    replace hN23 := hN23.ext hE81
                    replace hx25 := hx25.ext hE81
                    replace hB8 := hB8.ext hE81
                    replace hO33 := hO33.ext hE81
                    replace hF47 := hF47.ext hE81
                    replace hN47 := hN47.ext hE81
                    replace hF79 := hF79.ext hE81
                    replace hN79 := hN79.ext hE81
                    refine WL_q rfl (ev_move rfl) ?_
                    refine WL_q rfl (ev_extract rfl rfl) ?_
                    refine WL_q rfl (ev_extract rfl rfl) ?_
                    refine WL_q rfl (ev_assign rfl) ?_
                    refine WL_q rfl (ev_assign rfl) ?_
                    refine WL_nil ?_
                    refine thenE_n ?_
                    refine W_seq ?_
                    refine W_seq ?_
                    refine W_region ?_
                    refine WL_q rfl (ev_move rfl) ?_
                    refine WL_q rfl (ev_move rfl) ?_
                    refine WL_m rfl (ev_call rfl (eqIntS_spec _ _ _ _ y81 y25 _ (ownt_i hO81) hx25 (by omega))) ?_
                    rintro _ w86 ⟨rfl, hE86⟩
                    have hz86 := hE86.size
                    replace hE := hE.trans hE86
                    replace hA := hA.ext hE86
                    replace hB2 := hB2.ext hE86
                    replace hF23 := hF23.ext hE86
                    replace hN23 := hN23.ext hE86
                    replace hx25 := hx25.ext hE86
                    replace hB8 := hB8.ext hE86
                    replace hO33 := hO33.ext hE86
                    replace hF47 := hF47.ext hE86
                    replace hN47 := hN47.ext hE86
                    replace hF79 := hF79.ext hE86
                    replace hN79 := hN79.ext hE86
                    replace hO81 := hO81.ext hE86
                    refine WL_q rfl (ev_not rfl) ?_
                    refine WL_q rfl (ev_move rfl) ?_
                    refine WL_splitv (t := 88) rfl (fun hg87 => ?_) (fun hg87 => ?_)
                    · have hg86 := not_true hg87
                      refine WL_no rfl rfl hg87 rfl ?_
                      refine WL_no rfl rfl hg87 rfl ?_
                      refine WL_no rfl rfl hg87 rfl ?_
                      refine WL_q rfl (ev_pick_t rfl hg87 rfl) ?_
                      refine WL_nil ?_
                      refine thenE_n ?_
                      refine W_cond_t rfl ?_
                      refine W_seq ?_
                      refine W_region ?_
                      refine WL_q rfl (ev_assign rfl) ?_
                      refine WL_nil ?_
                      refine thenE_n ?_
                      refine W_ret ?_
                      refine thenE_r ?_
                      refine ret1 rfl rfl ?_
                      first | (exact ⟨rfl, hE⟩) | (exact (bneE hg86 (hr81.det1 hr25)).elim) | (exact absurd (hr81.det1 hr25) hp86) | (exact absurd (hr81.det1 hr25) (of_decide_eq_false hg86)) | (exact (bneE hg86 (hr81.det2 hr25)).elim) | (exact absurd (hr81.det2 hr25) hp86) | (exact absurd (hr81.det2 hr25) (of_decide_eq_false hg86)) | (exact (bneE hg86 (hr81.det3 hr25)).elim) | (exact absurd (hr81.det3 hr25) hp86) | (exact absurd (hr81.det3 hr25) (of_decide_eq_false hg86)) | (exact (bneE hg86 (hr33.det1 hr25)).elim) | (exact absurd (hr33.det1 hr25) hp86) | (exact absurd (hr33.det1 hr25) (of_decide_eq_false hg86)) | (exact (bneE hg86 (hr33.det2 hr25)).elim) | (exact absurd (hr33.det2 hr25) hp86) | (exact absurd (hr33.det2 hr25) (of_decide_eq_false hg86)) | (exact (bneE hg86 (hr33.det3 hr25)).elim) | (exact absurd (hr33.det3 hr25) hp86) | (exact absurd (hr33.det3 hr25) (of_decide_eq_false hg86)) | (exact (tfX hg86).elim) | (exact (decF hg86).elim) | (exfalso; omega)
                    · have hg86 := not_false hg87
                      refine WL_qg rfl rfl hg87 rfl (ev_move rfl) ?_
                      refine WL_qg rfl rfl hg87 rfl (ev_move rfl) ?_
                      refine WL_qg rfl rfl hg87 rfl (ev_neq_b Try.underlying4 rfl rfl) ?_
                      refine WL_q rfl (ev_pick_f rfl hg87 rfl) ?_
                      refine WL_nil ?_
                      refine thenE_n ?_
                      refine W_cond rfl (fun hg91 => ?_) (fun hg91 => ?_)
                      · refine W_seq ?_
                        refine W_region ?_
                        refine WL_q rfl (ev_assign rfl) ?_
                        refine WL_nil ?_
                        refine thenE_n ?_
                        refine W_ret ?_
                        refine thenE_r ?_
                        refine ret1 rfl rfl ?_
                        first | (exact ⟨rfl, hE⟩) | (exact (bneE hg91 (hr81.det1 hr25)).elim) | (exact absurd (hr81.det1 hr25) hp91) | (exact absurd (hr81.det1 hr25) (of_decide_eq_false hg91)) | (exact (bneE hg91 (hr81.det2 hr25)).elim) | (exact absurd (hr81.det2 hr25) hp91) | (exact absurd (hr81.det2 hr25) (of_decide_eq_false hg91)) | (exact (bneE hg91 (hr81.det3 hr25)).elim) | (exact absurd (hr81.det3 hr25) hp91) | (exact absurd (hr81.det3 hr25) (of_decide_eq_false hg91)) | (exact (bneE hg91 (hr33.det1 hr25)).elim) | (exact absurd (hr33.det1 hr25) hp91) | (exact absurd (hr33.det1 hr25) (of_decide_eq_false hg91)) | (exact (bneE hg91 (hr33.det2 hr25)).elim) | (exact absurd (hr33.det2 hr25) hp91) | (exact absurd (hr33.det2 hr25) (of_decide_eq_false hg91)) | (exact (bneE hg91 (hr33.det3 hr25)).elim) | (exact absurd (hr33.det3 hr25) hp91) | (exact absurd (hr33.det3 hr25) (of_decide_eq_false hg91)) | (exact (tfX hg91).elim) | (exact (decF hg91).elim) | (exfalso; omega)
                      · refine W_skip ?_
                        refine thenE_n ?_
                        refine W_seq ?_
                        refine W_region ?_
                        refine WL_q rfl (ev_assign rfl) ?_
                        refine WL_nil ?_
                        refine thenE_n ?_
                        refine W_seq ?_
                        refine W_region ?_
                        refine WL_q rfl (ev_move rfl) ?_
                        refine WL_q rfl (ev_move rfl) ?_
                        refine WL_m rfl (ev_call rfl (heldIntS_spec _ _ (nums 1 y33.length) _ _ (Ints.of_own (nums_len _ _) hO33.1) rfl (by omega) (by omega))) ?_
                        rintro _ w95 ⟨rfl, hE95⟩
                        have hz95 := hE95.size
                        replace hE := hE.trans hE95
                        replace hA := hA.ext hE95
                        replace hB2 := hB2.ext hE95
                        replace hF23 := hF23.ext hE95
                        replace hN23 := hN23.ext hE95
                        replace hx25 := hx25.ext hE95
                        replace hB8 := hB8.ext hE95
                        replace hO33 := hO33.ext hE95
                        replace hF47 := hF47.ext hE95
                        replace hN47 := hN47.ext hE95
                        replace hF79 := hF79.ext hE95
                        replace hN79 := hN79.ext hE95
                        replace hO81 := hO81.ext hE95
                        refine WL_q rfl (ev_assign rfl) ?_
                        refine WL_nil ?_
                        refine thenE_n ?_
                        refine W_seq ?_
                        refine W_seq ?_
                        refine W_region ?_
                        refine WL_q rfl (ev_move rfl) ?_
                        refine WL_q rfl (ev_lss rfl rfl) ?_
                        refine WL_nil ?_
                        refine thenE_n ?_
                        refine W_cond rfl (fun hg97 => ?_) (fun hg97 => ?_)
                        · have hp97 := of_decide_eq_true hg97
                          refine W_seq ?_
                          refine W_region ?_
                          refine WL_q rfl (ev_assign rfl) ?_
                          refine WL_nil ?_
                          refine thenE_n ?_
                          refine W_ret ?_
                          refine thenE_r ?_
                          refine ret1 rfl rfl ?_
                          first | (exact ⟨rfl, hE⟩) | (exact (bneE hg97 (hr81.det1 hr25)).elim) | (exact absurd (hr81.det1 hr25) hp97) | (exact absurd (hr81.det1 hr25) (of_decide_eq_false hg97)) | (exact (bneE hg97 (hr81.det2 hr25)).elim) | (exact absurd (hr81.det2 hr25) hp97) | (exact absurd (hr81.det2 hr25) (of_decide_eq_false hg97)) | (exact (bneE hg97 (hr81.det3 hr25)).elim) | (exact absurd (hr81.det3 hr25) hp97) | (exact absurd (hr81.det3 hr25) (of_decide_eq_false hg97)) | (exact (bneE hg97 (hr33.det1 hr25)).elim) | (exact absurd (hr33.det1 hr25) hp97) | (exact absurd (hr33.det1 hr25) (of_decide_eq_false hg97)) | (exact (bneE hg97 (hr33.det2 hr25)).elim) | (exact absurd (hr33.det2 hr25) hp97) | (exact absurd (hr33.det2 hr25) (of_decide_eq_false hg97)) | (exact (bneE hg97 (hr33.det3 hr25)).elim) | (exact absurd (hr33.det3 hr25) hp97) | (exact absurd (hr33.det3 hr25) (of_decide_eq_false hg97)) | (exact (tfX hg97).elim) | (exact (decF hg97).elim) | (exfalso; omega)
                        · have hp97 := of_decide_eq_false hg97
                          refine W_skip ?_
                          refine thenE_n ?_
                          refine W_seq ?_
                          refine W_seq ?_
                          refine W_region ?_
                          refine WL_q rfl (ev_move rfl) ?_
                          refine WL_q rfl (ev_move rfl) ?_
                          refine WL_q rfl (ev_neq rfl rfl) ?_
                          refine WL_nil ?_
                          refine thenE_n ?_
                          refine W_cond rfl (fun hg100 => ?_) (fun hg100 => ?_)
                          · have hp100 := of_decide_eq_true hg100
                            refine W_seq ?_
                            refine W_region ?_
                            refine WL_q rfl (ev_assign rfl) ?_
                            refine WL_nil ?_
                            refine thenE_n ?_
                            refine W_ret ?_
                            refine thenE_r ?_
                            refine ret1 rfl rfl ?_
                            first | (exact ⟨rfl, hE⟩) | (exact (bneE hg100 (hr81.det1 hr25)).elim) | (exact absurd (hr81.det1 hr25) hp100) | (exact absurd (hr81.det1 hr25) (of_decide_eq_false hg100)) | (exact (bneE hg100 (hr81.det2 hr25)).elim) | (exact absurd (hr81.det2 hr25) hp100) | (exact absurd (hr81.det2 hr25) (of_decide_eq_false hg100)) | (exact (bneE hg100 (hr81.det3 hr25)).elim) | (exact absurd (hr81.det3 hr25) hp100) | (exact absurd (hr81.det3 hr25) (of_decide_eq_false hg100)) | (exact (bneE hg100 (hr33.det1 hr25)).elim) | (exact absurd (hr33.det1 hr25) hp100) | (exact absurd (hr33.det1 hr25) (of_decide_eq_false hg100)) | (exact (bneE hg100 (hr33.det2 hr25)).elim) | (exact absurd (hr33.det2 hr25) hp100) | (exact absurd (hr33.det2 hr25) (of_decide_eq_false hg100)) | (exact (bneE hg100 (hr33.det3 hr25)).elim) | (exact absurd (hr33.det3 hr25) hp100) | (exact absurd (hr33.det3 hr25) (of_decide_eq_false hg100)) | (exact (tfX hg100).elim) | (exact (decF hg100).elim) | (exfalso; omega)
                          · have hp100 := of_decide_eq_false hg100
                            refine W_skip ?_
                            refine thenE_n ?_
                            refine W_seq ?_
                            refine W_region ?_
                            refine WL_q rfl (ev_assign rfl) ?_
                            refine WL_nil ?_
                            refine thenE_n ?_
                            refine W_ret ?_
                            refine ret1 rfl rfl ?_
                            first | (exact ⟨rfl, hE⟩) | (exact (bneE hg100 (hr81.det1 hr25)).elim) | (exact absurd (hr81.det1 hr25) hp100) | (exact absurd (hr81.det1 hr25) (of_decide_eq_false hg100)) | (exact (bneE hg100 (hr81.det2 hr25)).elim) | (exact absurd (hr81.det2 hr25) hp100) | (exact absurd (hr81.det2 hr25) (of_decide_eq_false hg100)) | (exact (bneE hg100 (hr81.det3 hr25)).elim) | (exact absurd (hr81.det3 hr25) hp100) | (exact absurd (hr81.det3 hr25) (of_decide_eq_false hg100)) | (exact (bneE hg100 (hr33.det1 hr25)).elim) | (exact absurd (hr33.det1 hr25) hp100) | (exact absurd (hr33.det1 hr25) (of_decide_eq_false hg100)) | (exact (bneE hg100 (hr33.det2 hr25)).elim) | (exact absurd (hr33.det2 hr25) hp100) | (exact absurd (hr33.det2 hr25) (of_decide_eq_false hg100)) | (exact (bneE hg100 (hr33.det3 hr25)).elim) | (exact absurd (hr33.det3 hr25) hp100) | (exact absurd (hr33.det3 hr25) (of_decide_eq_false hg100)) | (exact (tfX hg100).elim) | (exact (decF hg100).elim) | (exfalso; omega)

set_option maxHeartbeats 4000000 in
set_option maxRecDepth 100000 in
theorem sPathBetween_spec {loA hiA : Nat} (nA : NA) (A : Net) (v : Int) (x : Int) (w : World) (hA : IsNet loA hiA w nA A) (hhiA : hiA ≤ w.heap.size) (hnA : totN A ≤ 1048576) :
    Fn Try.prog 34 #[netV nA A, VI v, VI x] w (fun o9 w' => ∃ a' c' ys q, o9 = .tuple #[.slice a' ys.length c', VB q] ∧ RV [] (opt ((NN A v ∧ NN A x) ∧ 0 ≤ ((bfs A.ends x).getD v.toNat 0)) (wayN A.ends (bfs A.ends x) v ((bfs A.ends x).getD v.toNat 0).toNat).2) ys q ∧ Ints 0 w'.heap.size w' a' c' ys ∧ ys.length ≤ 1048576 ∧ Ext w w') := by
  have hqA := totL_len A.ends
  have hmA : totL A.ends + A.ids.length + A.inputs.length ≤ 1048576 := hnA
  have hE := Ext.refl w
  refine Fn_of Try.func34 rfl rfl (by kernel_rfl) rfl ?_
  refine W_seq ?_
  refine W_region ?_
  refine WL_m rfl (ev_box rfl) ?_
  rintro _ w3 ⟨rfl, hN3⟩
  have hz3 := hN3.size
  replace hE := hE.trans hN3.ext
  replace hA := hA.ext hN3.ext
  have hB3 : Blk w3 _ _ [_, _, _] := hN3.blk
  refine WL_q rfl (ev_assign rfl) ?_
  refine WL_q rfl (ev_assign rfl) ?_
  refine WL_nil ?_
  refine thenE_n ?_
  refine W_seq ?_
  refine W_seq ?_
  refine W_region ?_
  refine WL_q rfl (ev_loads st31 sz31 rfl (cellsB hB3) rfl) ?_
  refine WL_q rfl (ev_move rfl) ?_
  refine WL_m rfl (ev_call rfl (neNode_spec _ A _ _ hA (by omega) (by omega))) ?_
  rintro _ w13 ⟨b13, rfl, hb13, hE13⟩
  have hz13 := hE13.size
  replace hE := hE.trans hE13
  replace hA := hA.ext hE13
  replace hB3 := hB3.ext hE13
  refine WL_q rfl (ev_not rfl) ?_
  refine WL_q rfl (ev_move rfl) ?_
  refine WL_splitv (t := 15) rfl (fun hg14 => ?_) (fun hg14 => ?_)
  · have hg13 := not_true hg14
    have hp13 := ttN hb13 hg13
    refine WL_no rfl rfl hg14 rfl ?_
    refine WL_no rfl rfl hg14 rfl ?_
    refine WL_no rfl rfl hg14 rfl ?_
    refine WL_no rfl rfl hg14 rfl ?_
    refine WL_q rfl (ev_pick_t rfl hg14 rfl) ?_
    refine WL_nil ?_
    refine thenE_n ?_
    refine W_cond_t rfl ?_
    refine W_seq ?_
    refine W_region ?_
    refine WL_q rfl (ev_assign rfl) ?_
    refine WL_q rfl (ev_assign rfl) ?_
    refine WL_nil ?_
    refine thenE_n ?_
    refine W_ret ?_
    refine thenE_r ?_
    refine ret2 rfl rfl rfl ?_
    first | (exact ⟨none, 0, [], _, rfl, .no (fun h => hp13 h.1.1), Ints.nil, by simp, hE⟩) | (exact ⟨none, 0, [], _, rfl, .no (fun h => hp18 h.1.2), Ints.nil, by simp, hE⟩) | (exact ⟨none, 0, [], _, rfl, .no (fun h => by have := h.2; omega), Ints.nil, by simp, hE⟩) | (have hk6 := hwe.1 (by omega); have hk7 : k = ((bfs A.ends x).getD v.toNat 0).toNat := (by omega); subst hk7; exact ⟨_, _, _, true, rfl, .yes ⟨⟨hp13, hp18⟩, hd⟩ rfl, (ownt_i hO).mono (Nat.zero_le _) (Nat.le_refl _), by omega, hE⟩)
  · have hg13 := not_false hg14
    have hp13 := hb13.1 hg13
    refine WL_qg rfl rfl hg14 rfl (ev_loads st31 sz31 rfl (cellsB hB3) rfl) ?_
    refine WL_qg rfl rfl hg14 rfl (ev_move rfl) ?_
    refine WL_mg rfl rfl hg14 rfl (ev_call rfl (neNode_spec _ A _ _ hA (by omega) (by omega))) ?_
    rintro _ w18 ⟨b18, rfl, hb18, hE18⟩
    have hz18 := hE18.size
    replace hE := hE.trans hE18
    replace hA := hA.ext hE18
    replace hB3 := hB3.ext hE18
    refine WL_qg rfl rfl hg14 rfl (ev_not rfl) ?_
    refine WL_q rfl (ev_pick_f rfl hg14 rfl) ?_
    refine WL_nil ?_
    refine thenE_n ?_
    refine W_cond rfl (fun hg19 => ?_) (fun hg19 => ?_)
    · have hg18 := not_true hg19
      have hp18 := ttN hb18 hg18
      refine W_seq ?_
      refine W_region ?_
      refine WL_q rfl (ev_assign rfl) ?_
      refine WL_q rfl (ev_assign rfl) ?_
      refine WL_nil ?_
      refine thenE_n ?_
      refine W_ret ?_
      refine thenE_r ?_
      refine ret2 rfl rfl rfl ?_
      first | (exact ⟨none, 0, [], _, rfl, .no (fun h => hp13 h.1.1), Ints.nil, by simp, hE⟩) | (exact ⟨none, 0, [], _, rfl, .no (fun h => hp18 h.1.2), Ints.nil, by simp, hE⟩) | (exact ⟨none, 0, [], _, rfl, .no (fun h => by have := h.2; omega), Ints.nil, by simp, hE⟩) | (have hk6 := hwe.1 (by omega); have hk7 : k = ((bfs A.ends x).getD v.toNat 0).toNat := (by omega); subst hk7; exact ⟨_, _, _, true, rfl, .yes ⟨⟨hp13, hp18⟩, hd⟩ rfl, (ownt_i hO).mono (Nat.zero_le _) (Nat.le_refl _), by omega, hE⟩)
    · have hg18 := not_false hg19
      have hp18 := hb18.1 hg18
      refine W_skip ?_
      refine thenE_n ?_
      refine W_seq ?_
      refine W_region ?_
      refine WL_q rfl (ev_loads st31 sz31 rfl (cellsB hB3) rfl) ?_
      refine WL_q rfl (ev_move rfl) ?_
      have hk := hp13.1.endsOk
      have hs := hp13.1.sym
      have hnd := hp13.1.nodes
      have hv1 := hp13.2.1
      have hv2 := hp13.2.2
      have hx1 := hp18.2.1
      have hx2 := hp18.2.2
      have hl0 := bfs_len hk hx1 hx2
      have hdr : ∀ y ∈ bfs A.ends x, -1 ≤ y ∧ y ≤ 40 := fun y hy => by have := bfs_rng hk hx1 hx2 y hy; omega
      refine WL_m rfl (ev_call rfl (meFrom_spec _ A _ _ hA (by omega) (by omega) (by assumption) (by omega))) ?_
      rintro _ w23 ⟨a23, c23, rfl, hO23, hE23⟩
      have hz23 := hE23.size
      replace hE := hE.trans hE23
      replace hA := hA.ext hE23
      replace hB3 := hB3.ext hE23
      have hI23 := own_i hO23
      refine WL_q rfl (ev_assign rfl) ?_
      refine WL_nil ?_
      refine thenE_n ?_
      refine W_seq ?_
      refine W_seq ?_
      refine W_region ?_
      refine WL_q rfl (ev_move rfl) ?_
      refine WL_q rfl (ev_move rfl) ?_
      have hgd := getD_eq (z := 0) (show v.toNat < (bfs A.ends x).length by omega)
      refine WL_q rfl (ev_indexAddr Try.underlying23 sz3 rfl rfl (hI23.isSome (by omega)) hv1 (by omega)) ?_
      refine WL_q rfl (ev_load one3 rfl (hI23.cell (i := v.toNat) (by omega))) ?_
      refine WL_q rfl (ev_lss rfl rfl) ?_
      refine WL_nil ?_
      refine thenE_n ?_
      refine W_cond rfl (fun hg28 => ?_) (fun hg28 => ?_)
      · have hp28 := of_decide_eq_true hg28
        refine W_seq ?_
        refine W_region ?_
        refine WL_q rfl (ev_assign rfl) ?_
        refine WL_q rfl (ev_assign rfl) ?_
        refine WL_nil ?_
        refine thenE_n ?_
        refine W_ret ?_
        refine thenE_r ?_
        refine ret2 rfl rfl rfl ?_
        first | (exact ⟨none, 0, [], _, rfl, .no (fun h => hp13 h.1.1), Ints.nil, by simp, hE⟩) | (exact ⟨none, 0, [], _, rfl, .no (fun h => hp18 h.1.2), Ints.nil, by simp, hE⟩) | (exact ⟨none, 0, [], _, rfl, .no (fun h => by have := h.2; omega), Ints.nil, by simp, hE⟩) | (have hk6 := hwe.1 (by omega); have hk7 : k = ((bfs A.ends x).getD v.toNat 0).toNat := (by omega); subst hk7; exact ⟨_, _, _, true, rfl, .yes ⟨⟨hp13, hp18⟩, hd⟩ rfl, (ownt_i hO).mono (Nat.zero_le _) (Nat.le_refl _), by omega, hE⟩)
      · have hp28 := of_decide_eq_false hg28
        refine W_skip ?_
        refine thenE_n ?_
        refine W_seq ?_
        refine W_region ?_
        refine WL_q rfl (ev_assign rfl) ?_
        refine WL_nil ?_
        refine thenE_n ?_
        refine W_seq ?_
        refine W_block ?_
        have hd : 0 ≤ ((bfs A.ends x).getD v.toNat 0) := by omega
        refine W_loopC (G := Nat × Option Addr × Nat) [(2, _), (3, _), (8, _)] ((Subs.c rfl (Subs.c rfl (Subs.c rfl Subs.n)))) (fun ⟨k, a, c⟩ => [(1, VI (wayN A.ends (bfs A.ends x) v k).1), (9, .slice a (wayN A.ends (bfs A.ends x) v k).2.length c)]) (fun ⟨k, a, c⟩ w' => Ext w23 w' ∧ (k : Int) ≤ ((bfs A.ends x).getD v.toNat 0) ∧ OwnH w23.heap.size w'.heap.size 0 0 w' 3 1 a (wayN A.ends (bfs A.ends x) v k).2.length c ((wayN A.ends (bfs A.ends x) v k).2.map VI)) (fun g => ((bfs A.ends x).getD v.toNat 0).toNat - g.1) (0, none, 0) ((Subs.c rfl (Subs.c rfl Subs.n))) (⟨Ext.refl _, ⟨hd, OwnH.nil⟩⟩) ?_
        rintro ⟨k, a, c⟩ wL0 ⟨hRL0, hk9, hO⟩
        have hzL0 := hRL0.size
        replace hE := hE.trans hRL0
        replace hA := hA.ext hRL0
        replace hB3 := hB3.ext hRL0
        replace hI23 := hI23.ext hRL0
        obtain ⟨hw1, hw2, hw3⟩ := wayN_ok hk hs hx1 hx2 hv1 hv2 hd k hk9
        have hwe := wayN_end hk hs hx1 hx2 hv1 hv2 hd hk9
        have hwl := wayN_len A.ends (bfs A.ends x) v k
        have hbl := bfs_lt hk hx1 hx2 hv2
        refine W_seq ?_
        refine W_seq ?_
        refine W_region ?_
        refine WL_q rfl (ev_move rfl) ?_
        refine WL_q rfl (ev_move rfl) ?_
        refine WL_q rfl (ev_neq rfl rfl) ?_
        refine WL_nil ?_
        refine thenE_n ?_
        refine W_cond rfl (fun hg31 => ?_) (fun hg31 => ?_)
        · have hp31 := of_decide_eq_true hg31
          refine W_skip ?_
          refine thenE_n ?_
          refine W_block ?_
          refine W_seq ?_
          refine W_region ?_
          refine WL_q rfl (ev_loads st31 sz31 rfl (cellsB hB3) rfl) ?_
          refine WL_q rfl (ev_move rfl) ?_
          refine WL_q rfl (ev_move rfl) ?_
          have hk8 : (k : Int) < ((bfs A.ends x).getD v.toNat 0) := by rcases Int.lt_or_eq_of_le hk9 with h | h; exact h; exact absurd (hwe.2 h) hp31
          obtain ⟨ht1, ht2, ht3⟩ := twd_ok hk hs hx1 hx2 hw2 (by omega)
          refine WL_m rfl (ev_call rfl (meToward_len hl0 _ A _ hA (by omega) (by omega) hI23 (by omega) (by omega) hk (by omega) (by omega) hdr)) ?_
          rintro _ w35 ⟨rfl, hE35⟩
          have hz35 := hE35.size
          replace hE := hE.trans hE35
          replace hRL0 := hRL0.trans hE35
          replace hA := hA.ext hE35
          replace hB3 := hB3.ext hE35
          replace hI23 := hI23.ext hE35
          replace hO := hO.ext hE35
          refine WL_q rfl (ev_assign rfl) ?_
          refine WL_nil ?_
          refine thenE_n ?_
          refine W_seq ?_
          refine W_region ?_
          refine WL_q rfl (ev_move rfl) ?_
          refine WL_q rfl (ev_move rfl) ?_
          refine WL_m rfl (ev_lit1 Try.underlying23 el3 (by decide) (by decide) rfl rfl) ?_
          rintro _ w38 ⟨rfl, hN38⟩
          have hz38 := hN38.size
          replace hE := hE.trans hN38.ext
          replace hRL0 := hRL0.trans hN38.ext
          replace hA := hA.ext hN38.ext
          replace hB3 := hB3.ext hN38.ext
          replace hI23 := hI23.ext hN38.ext
          replace hO := hO.ext hN38.ext
          have hB38 := hN38.blk
          refine WL_m rfl (ev_appendT Try.underlying23 el3 rfl (by decide) rfl rfl hO (SAt.of_blk (cs := [_]) (ds := []) hB38) rfl (by simp [Value.oneCell']) (by omega) (by unfold maxLen; omega) (by omega)) ?_
          rintro _ w39 ⟨a39, c39, rfl, hO39, hK39, hQ39⟩
          have hz39 := hK39.size
          replace hE := hE.rg hK39 (by omega)
          replace hRL0 := hRL0.rg hK39 (by omega)
          replace hA := hA.rg hK39 (by omega)
          replace hB3 := hB3.rg hK39 (by omega)
          replace hI23 := hI23.rg hK39 (by omega)
          replace hB38 := hB38.rg hK39 (by omega)
          replace hO := hO39
          replace hO := ownt_snocI hO
          refine WL_q rfl (ev_assign rfl) ?_
          refine WL_nil ?_
          refine thenE_n ?_
          refine W_region ?_
          refine WL_q rfl (ev_fieldAddr fo31_0 rfl) ?_
          refine WL_q rfl (ev_load one29 rfl (hB3.cell rfl)) ?_
          refine WL_q rfl (ev_move rfl) ?_
          have hl43 : ((wayN A.ends (bfs A.ends x) v k).1).toNat < A.ends.length := by omega
          have ht43 := totL_le hl43
          obtain ⟨a43, c43, hc43, hr43⟩ := hA.ends.row hl43
          refine WL_q rfl (ev_indexAddr Try.underlying29 sz65 rfl rfl (hA.ends.isSome (by omega)) (by omega) (by omega)) ?_
          refine WL_q rfl (ev_load one65 rfl (hc43)) ?_
          refine WL_q rfl (ev_move rfl) ?_
          refine WL_q rfl (ev_indexAddr Try.underlying65 sz68 rfl rfl (hr43.isSome (by omega)) (by omega) (by omega)) ?_
          refine WL_q rfl (ev_fieldAddr fo68_0 rfl) ?_
          refine WL_q rfl (ev_load one3 rfl (hr43.fst (i := ((twd A.ends (bfs A.ends x) (wayN A.ends (bfs A.ends x) v k).1.toNat)).toNat) (by omega))) ?_
          refine WL_q rfl (ev_assign rfl) ?_
          refine WL_nil ?_
          refine blockE_n ?_
          refine thenE_n ?_
          exact ⟨(k + 1, a39, c39), (Subs.c rfl (Subs.c rfl (Subs.c rfl Subs.n))), (Subs.c (lkI rfl (by simp only [wayN]; rw [getD_eq hw2, getD_eq ht2])) (Subs.c (lkS rfl (by simp [wayN])) Subs.n)), ⟨hRL0, ⟨by omega, (ownt_to hO rfl (by simp [wayN])).up (Nat.le_refl _) (by omega)⟩⟩, by first | omega | (dsimp only; omega)⟩
        · have hp31 := of_decide_eq_false hg31
          refine W_exit ?_
          refine thenE_x ?_
          refine thenE_x ?_
          refine blockE_hit ?_
          refine thenE_n ?_
          refine W_seq ?_
          refine W_region ?_
          refine WL_q rfl (ev_move rfl) ?_
          refine WL_q rfl (ev_assign rfl) ?_
          refine WL_q rfl (ev_assign rfl) ?_
          refine WL_nil ?_
          refine thenE_n ?_
          refine W_ret ?_
          refine ret2 rfl rfl rfl ?_
          first | (exact ⟨none, 0, [], _, rfl, .no (fun h => hp13 h.1.1), Ints.nil, by simp, hE⟩) | (exact ⟨none, 0, [], _, rfl, .no (fun h => hp18 h.1.2), Ints.nil, by simp, hE⟩) | (exact ⟨none, 0, [], _, rfl, .no (fun h => by have := h.2; omega), Ints.nil, by simp, hE⟩) | (have hk6 := hwe.1 (by omega); have hk7 : k = ((bfs A.ends x).getD v.toNat 0).toNat := (by omega); subst hk7; exact ⟨_, _, _, true, rfl, .yes ⟨⟨hp13, hp18⟩, hd⟩ rfl, (ownt_i hO).mono (Nat.zero_le _) (Nat.le_refl _), by omega, hE⟩)

set_option maxHeartbeats 4000000 in
set_option maxRecDepth 100000 in
theorem PathBetween_spec {loA hiA : Nat} (nA : NA) (A : Net) (v : Int) (x : Int) (w : World) (hA : IsNet loA hiA w nA A) (hhiA : hiA ≤ w.heap.size) (hnA : totN A ≤ 1048576) :
    Fn Try.prog 35 #[netV nA A, VI v, VI x] w (fun o9 w' => ∃ a' c' ys q, o9 = .tuple #[.slice a' ys.length c', VB q] ∧ RV [] (opt ((NN A v ∧ NN A x) ∧ 0 ≤ ((bfs A.ends x).getD v.toNat 0)) (wayN A.ends (bfs A.ends x) v ((bfs A.ends x).getD v.toNat 0).toNat).2) ys q ∧ OwnH w.heap.size w'.heap.size 0 0 w' 3 1 a' ys.length c' (ys.map VI) ∧ ys.length ≤ 1048576 ∧ Ext w w') := by
  have hqA := totL_len A.ends
  have hmA : totL A.ends + A.ids.length + A.inputs.length ≤ 1048576 := hnA
  have hE := Ext.refl w
  refine Fn_of Try.func35 rfl rfl (by kernel_rfl) rfl ?_
  refine W_seq ?_
  refine W_region ?_
  refine WL_m rfl (ev_box rfl) ?_
  rintro _ w3 ⟨rfl, hN3⟩
  have hz3 := hN3.size
  replace hE := hE.trans hN3.ext
  replace hA := hA.ext hN3.ext
  have hB3 : Blk w3 _ _ [_, _, _] := hN3.blk
  refine WL_m rfl (ev_box rfl) ?_
  rintro _ w4 ⟨rfl, hN4⟩
  have hz4 := hN4.size
  replace hE := hE.trans hN4.ext
  replace hA := hA.ext hN4.ext
  replace hB3 := hB3.ext hN4.ext
  have hB4 : Blk w4 _ _ [_] := hN4.blk
  refine WL_q rfl (ev_assign rfl) ?_
  refine WL_q rfl (ev_assign rfl) ?_
  refine WL_nil ?_
  refine thenE_n ?_
  refine W_seq ?_
  refine W_seq ?_
  refine W_region ?_
  refine WL_q rfl (ev_loads st31 sz31 rfl (cellsB hB3) rfl) ?_
  refine WL_m rfl (ev_call rfl (IsNetwork_spec _ A _ hA (by omega) (by omega))) ?_
  rintro _ w12 ⟨b12, rfl, hb12, hE12⟩
  have hz12 := hE12.size
  replace hE := hE.trans hE12
  replace hA := hA.ext hE12
  replace hB3 := hB3.ext hE12
  replace hB4 := hB4.ext hE12
  refine WL_q rfl (ev_not rfl) ?_
  refine WL_q rfl (ev_move rfl) ?_
  refine WL_splitv (t := 14) rfl (fun hg13 => ?_) (fun hg13 => ?_)
  · have hg12 := not_true hg13
    have hp12 := ttN hb12 hg12
    refine WL_no rfl rfl hg13 rfl ?_
    refine WL_no rfl rfl hg13 rfl ?_
    refine WL_no rfl rfl hg13 rfl ?_
    refine WL_no rfl rfl hg13 rfl ?_
    refine WL_q rfl (ev_pick_t rfl hg13 rfl) ?_
    refine WL_q rfl (ev_move rfl) ?_
    refine WL_no rfl rfl rfl rfl ?_
    refine WL_no rfl rfl rfl rfl ?_
    refine WL_no rfl rfl rfl rfl ?_
    refine WL_no rfl rfl rfl rfl ?_
    refine WL_q rfl (ev_pick_t rfl rfl rfl) ?_
    refine WL_nil ?_
    refine thenE_n ?_
    refine W_cond_t rfl ?_
    refine W_seq ?_
    refine W_region ?_
    refine WL_q rfl (ev_assign rfl) ?_
    refine WL_q rfl (ev_assign rfl) ?_
    refine WL_nil ?_
    refine thenE_n ?_
    refine W_ret ?_
    refine thenE_r ?_
    refine ret2 rfl rfl rfl ?_
    first | (exact ⟨none, 0, [], _, rfl, .no (fun h => hp12 h.1.1.1), OwnH.nil, by simp, hE⟩) | (exact ⟨none, 0, [], _, rfl, .no (fun h => hp17 h.1.1.2), OwnH.nil, by simp, hE⟩) | (exact ⟨none, 0, [], _, rfl, .no (fun h => hp23 h.1.2.2), OwnH.nil, by simp, hE⟩) | (exact ⟨none, 0, [], _, rfl, .no (fun h => by have := h.2; omega), OwnH.nil, by simp, hE⟩) | (have hk6 := hwe.1 (by omega); have hk7 : k = ((bfs A.ends x).getD v.toNat 0).toNat := (by omega); subst hk7; exact ⟨_, _, _, true, rfl, .yes ⟨⟨⟨hp12, hp17⟩, ⟨hp12, hp23⟩⟩, hd⟩ rfl, hO.up (by omega) (Nat.le_refl _), by omega, hE⟩)
  · have hg12 := not_false hg13
    have hp12 := hb12.1 hg12
    refine WL_qg rfl rfl hg13 rfl (ev_loads st31 sz31 rfl (cellsB hB3) rfl) ?_
    refine WL_qg rfl rfl hg13 rfl (ev_load one3 rfl (hB4.cell rfl)) ?_
    refine WL_mg rfl rfl hg13 rfl (ev_call rfl (hasNode_spec _ A _ _ (by omega))) ?_
    rintro _ w17 ⟨b17, rfl, hb17, hE17⟩
    have hz17 := hE17.size
    replace hE := hE.trans hE17
    replace hA := hA.ext hE17
    replace hB3 := hB3.ext hE17
    replace hB4 := hB4.ext hE17
    refine WL_qg rfl rfl hg13 rfl (ev_not rfl) ?_
    refine WL_q rfl (ev_pick_f rfl hg13 rfl) ?_
    refine WL_q rfl (ev_move rfl) ?_
    refine WL_splitv (t := 20) rfl (fun hg18 => ?_) (fun hg18 => ?_)
    · have hg17 := not_true hg18
      have hp17 := ttN hb17 hg17
      refine WL_no rfl rfl hg18 rfl ?_
      refine WL_no rfl rfl hg18 rfl ?_
      refine WL_no rfl rfl hg18 rfl ?_
      refine WL_no rfl rfl hg18 rfl ?_
      refine WL_q rfl (ev_pick_t rfl hg18 rfl) ?_
      refine WL_nil ?_
      refine thenE_n ?_
      refine W_cond_t rfl ?_
      refine W_seq ?_
      refine W_region ?_
      refine WL_q rfl (ev_assign rfl) ?_
      refine WL_q rfl (ev_assign rfl) ?_
      refine WL_nil ?_
      refine thenE_n ?_
      refine W_ret ?_
      refine thenE_r ?_
      refine ret2 rfl rfl rfl ?_
      first | (exact ⟨none, 0, [], _, rfl, .no (fun h => hp12 h.1.1.1), OwnH.nil, by simp, hE⟩) | (exact ⟨none, 0, [], _, rfl, .no (fun h => hp17 h.1.1.2), OwnH.nil, by simp, hE⟩) | (exact ⟨none, 0, [], _, rfl, .no (fun h => hp23 h.1.2.2), OwnH.nil, by simp, hE⟩) | (exact ⟨none, 0, [], _, rfl, .no (fun h => by have := h.2; omega), OwnH.nil, by simp, hE⟩) | (have hk6 := hwe.1 (by omega); have hk7 : k = ((bfs A.ends x).getD v.toNat 0).toNat := (by omega); subst hk7; exact ⟨_, _, _, true, rfl, .yes ⟨⟨⟨hp12, hp17⟩, ⟨hp12, hp23⟩⟩, hd⟩ rfl, hO.up (by omega) (Nat.le_refl _), by omega, hE⟩)
    · have hg17 := not_false hg18
      have hp17 := hb17.1 hg17
      refine WL_qg rfl rfl hg18 rfl (ev_loads st31 sz31 rfl (cellsB hB3) rfl) ?_
      refine WL_qg rfl rfl hg18 rfl (ev_move rfl) ?_
      refine WL_mg rfl rfl hg18 rfl (ev_call rfl (hasNode_spec _ A _ _ (by omega))) ?_
      rintro _ w23 ⟨b23, rfl, hb23, hE23⟩
      have hz23 := hE23.size
      replace hE := hE.trans hE23
      replace hA := hA.ext hE23
      replace hB3 := hB3.ext hE23
      replace hB4 := hB4.ext hE23
      refine WL_qg rfl rfl hg18 rfl (ev_not rfl) ?_
      refine WL_q rfl (ev_pick_f rfl hg18 rfl) ?_
      refine WL_nil ?_
      refine thenE_n ?_
      refine W_cond rfl (fun hg24 => ?_) (fun hg24 => ?_)
      · have hg23 := not_true hg24
        have hp23 := ttN hb23 hg23
        refine W_seq ?_
        refine W_region ?_
        refine WL_q rfl (ev_assign rfl) ?_
        refine WL_q rfl (ev_assign rfl) ?_
        refine WL_nil ?_
        refine thenE_n ?_
        refine W_ret ?_
        refine thenE_r ?_
        refine ret2 rfl rfl rfl ?_
        first | (exact ⟨none, 0, [], _, rfl, .no (fun h => hp12 h.1.1.1), OwnH.nil, by simp, hE⟩) | (exact ⟨none, 0, [], _, rfl, .no (fun h => hp17 h.1.1.2), OwnH.nil, by simp, hE⟩) | (exact ⟨none, 0, [], _, rfl, .no (fun h => hp23 h.1.2.2), OwnH.nil, by simp, hE⟩) | (exact ⟨none, 0, [], _, rfl, .no (fun h => by have := h.2; omega), OwnH.nil, by simp, hE⟩) | (have hk6 := hwe.1 (by omega); have hk7 : k = ((bfs A.ends x).getD v.toNat 0).toNat := (by omega); subst hk7; exact ⟨_, _, _, true, rfl, .yes ⟨⟨⟨hp12, hp17⟩, ⟨hp12, hp23⟩⟩, hd⟩ rfl, hO.up (by omega) (Nat.le_refl _), by omega, hE⟩)
      · have hg23 := not_false hg24
        have hp23 := hb23.1 hg23
        refine W_skip ?_
        refine thenE_n ?_
        refine W_seq ?_
        refine W_region ?_
        refine WL_q rfl (ev_loads st31 sz31 rfl (cellsB hB3) rfl) ?_
        refine WL_q rfl (ev_move rfl) ?_
        have hk := hp12.endsOk
        have hs := hp12.sym
        have hnd := hp12.nodes
        have hv1 := hp17.1
        have hv2 := hp17.2
        have hx1 := hp23.1
        have hx2 := hp23.2
        have hl0 := bfs_len hk hx1 hx2
        have hdr : ∀ y ∈ bfs A.ends x, -1 ≤ y ∧ y ≤ 40 := fun y hy => by have := bfs_rng hk hx1 hx2 y hy; omega
        refine WL_m rfl (ev_call rfl (dist_spec _ A _ _ hA (by omega) (by omega) (by assumption) (by omega))) ?_
        rintro _ w28 ⟨a28, c28, rfl, hO28, hE28⟩
        have hz28 := hE28.size
        replace hE := hE.trans hE28
        replace hA := hA.ext hE28
        replace hB3 := hB3.ext hE28
        replace hB4 := hB4.ext hE28
        have hI28 := own_i hO28
        refine WL_m rfl (ev_alloc zr23) ?_
        rintro _ w8 ⟨rfl, hN8⟩
        have hz8 := hN8.size
        replace hE := hE.trans hN8.ext
        replace hA := hA.ext hN8.ext
        replace hB3 := hB3.ext hN8.ext
        replace hB4 := hB4.ext hN8.ext
        replace hI28 := hI28.ext hN8.ext
        have hB8 : Blk w8 _ _ [_] := hN8.blk
        refine WL_s (ev_store sz23 rfl rfl rfl hB8 (by simp)) ?_
        rintro _ w3_4 hS3_4
        have hz3_4 := hS3_4.size
        replace hE := hE.sto hS3_4 (by omega)
        replace hA := hA.sto hS3_4 (by omega)
        replace hB3 := hB3.sto hS3_4 (by omega)
        replace hB4 := hB4.sto hS3_4 (by omega)
        replace hI28 := hI28.sto hS3_4 (by omega)
        replace hB8 : Blk w3_4 _ _ [_] := hS3_4.blk
        refine WL_nil ?_
        refine thenE_n ?_
        refine W_seq ?_
        refine W_seq ?_
        refine W_region ?_
        refine WL_q rfl (ev_load one23 rfl (hB8.cell rfl)) ?_
        refine WL_q rfl (ev_load one3 rfl (hB4.cell rfl)) ?_
        have hgd := getD_eq (z := 0) (show v.toNat < (bfs A.ends x).length by omega)
        refine WL_q rfl (ev_indexAddr Try.underlying23 sz3 rfl rfl (hI28.isSome (by omega)) hv1 (by omega)) ?_
        refine WL_q rfl (ev_load one3 rfl (hI28.cell (i := v.toNat) (by omega))) ?_
        refine WL_q rfl (ev_lss rfl rfl) ?_
        refine WL_nil ?_
        refine thenE_n ?_
        refine W_cond rfl (fun hg33 => ?_) (fun hg33 => ?_)
        · have hp33 := of_decide_eq_true hg33
          refine W_seq ?_
          refine W_region ?_
          refine WL_q rfl (ev_assign rfl) ?_
          refine WL_q rfl (ev_assign rfl) ?_
          refine WL_nil ?_
          refine thenE_n ?_
          refine W_ret ?_
          refine thenE_r ?_
          refine ret2 rfl rfl rfl ?_
          first | (exact ⟨none, 0, [], _, rfl, .no (fun h => hp12 h.1.1.1), OwnH.nil, by simp, hE⟩) | (exact ⟨none, 0, [], _, rfl, .no (fun h => hp17 h.1.1.2), OwnH.nil, by simp, hE⟩) | (exact ⟨none, 0, [], _, rfl, .no (fun h => hp23 h.1.2.2), OwnH.nil, by simp, hE⟩) | (exact ⟨none, 0, [], _, rfl, .no (fun h => by have := h.2; omega), OwnH.nil, by simp, hE⟩) | (have hk6 := hwe.1 (by omega); have hk7 : k = ((bfs A.ends x).getD v.toNat 0).toNat := (by omega); subst hk7; exact ⟨_, _, _, true, rfl, .yes ⟨⟨⟨hp12, hp17⟩, ⟨hp12, hp23⟩⟩, hd⟩ rfl, hO.up (by omega) (Nat.le_refl _), by omega, hE⟩)
        · have hp33 := of_decide_eq_false hg33
          refine W_skip ?_
          refine thenE_n ?_
          refine W_seq ?_
          refine W_region ?_
          refine WL_q rfl (ev_assign rfl) ?_
          refine WL_nil ?_
          refine thenE_n ?_
          refine W_seq ?_
          refine W_block ?_
          have hd : 0 ≤ ((bfs A.ends x).getD v.toNat 0) := by omega
          refine W_loopC (G := Nat × Option Addr × Nat) [(2, _), (3, _), (4, _), (8, _)] ((Subs.c rfl (Subs.c rfl (Subs.c rfl (Subs.c rfl Subs.n))))) (fun ⟨k, a, c⟩ => [(9, .slice a (wayN A.ends (bfs A.ends x) v k).2.length c)]) (fun ⟨k, a, c⟩ w' => KX (w3.heap.size) w3_4 w' ∧ (k : Int) ≤ ((bfs A.ends x).getD v.toNat 0) ∧ OwnH w3_4.heap.size w'.heap.size 0 0 w' 3 1 a (wayN A.ends (bfs A.ends x) v k).2.length c ((wayN A.ends (bfs A.ends x) v k).2.map VI) ∧ Blk w' w3.heap.size 3 [VI (wayN A.ends (bfs A.ends x) v k).1]) (fun g => ((bfs A.ends x).getD v.toNat 0).toNat - g.1) (0, none, 0) ((Subs.c rfl Subs.n)) (⟨KX.refl _ _, ⟨hd, OwnH.nil, hB4⟩⟩) ?_
          rintro ⟨k, a, c⟩ wL0 ⟨hRL0, hk9, hO, hB4⟩
          have hzL0 := hRL0.size
          replace hA := hA.kx hRL0 (by omega)
          replace hB3 := hB3.kx hRL0 (by omega)
          replace hI28 := hI28.kx hRL0 (by omega)
          replace hB8 := hB8.kx hRL0 (by omega)
          replace hE := hE.kx hRL0 (by omega)
          obtain ⟨hw1, hw2, hw3⟩ := wayN_ok hk hs hx1 hx2 hv1 hv2 hd k hk9
          have hwe := wayN_end hk hs hx1 hx2 hv1 hv2 hd hk9
          have hwl := wayN_len A.ends (bfs A.ends x) v k
          have hbl := bfs_lt hk hx1 hx2 hv2
          refine W_seq ?_
          refine W_seq ?_
          refine W_region ?_
          refine WL_q rfl (ev_load one3 rfl (hB4.cell rfl)) ?_
          refine WL_q rfl (ev_move rfl) ?_
          refine WL_q rfl (ev_neq rfl rfl) ?_
          refine WL_nil ?_
          refine thenE_n ?_
          refine W_cond rfl (fun hg36 => ?_) (fun hg36 => ?_)
          · have hp36 := of_decide_eq_true hg36
            refine W_skip ?_
            refine thenE_n ?_
            refine W_block ?_
            refine W_seq ?_
            refine W_region ?_
            refine WL_q rfl (ev_fieldAddr fo31_0 rfl) ?_
            refine WL_q rfl (ev_load one29 rfl (hB3.cell rfl)) ?_
            refine WL_q rfl (ev_load one3 rfl (hB4.cell rfl)) ?_
            have hk8 : (k : Int) < ((bfs A.ends x).getD v.toNat 0) := by rcases Int.lt_or_eq_of_le hk9 with h | h; exact h; exact absurd (hwe.2 h) hp36
            obtain ⟨ht1, ht2, ht3⟩ := twd_ok hk hs hx1 hx2 hw2 (by omega)
            have hl40 : ((wayN A.ends (bfs A.ends x) v k).1).toNat < A.ends.length := by omega
            have ht40 := totL_le hl40
            obtain ⟨a40, c40, hc40, hr40⟩ := hA.ends.row hl40
            refine WL_q rfl (ev_indexAddr Try.underlying29 sz65 rfl rfl (hA.ends.isSome (by omega)) (by omega) (by omega)) ?_
            refine WL_q rfl (ev_load one65 rfl (hc40)) ?_
            refine WL_q rfl (ev_makeFunc rfl rfl) ?_
            refine WL_m rfl (ev_call rfl ((Fn.mono (R' := fun v9 w' => v9 = VI (twd A.ends (bfs A.ends x) (wayN A.ends (bfs A.ends x) v k).1.toNat) ∧ Ext wL0 w') (IndexFunc_end _ _ (A.ends[(wayN A.ends (bfs A.ends x) v k).1.toNat]) _ [_, _] (fun e : Int × Int => decide ((bfs A.ends x).getD e.1.toNat 0 = (bfs A.ends x).getD (wayN A.ends (bfs A.ends x) v k).1.toNat 0 - 1)) _ hr40 (by omega) (fun u hu w1 hw => Path_1 _ _ _ _ _ (bfs A.ends x) _ _ _ (wayN A.ends (bfs A.ends x) v k).1.toNat w1 (hB8.ext hw) (by rw [Int.toNat_of_nonneg hw1]; exact hB4.ext hw) hl0.symm (hI28.ext hw) (by omega) (by have := hk.at hw2 hu; omega) hdr)) fun v9 w' h => ⟨h.1.trans (vi (twd_path hw2 (by omega)).symm), h.2⟩))) ?_
            rintro _ w43 ⟨rfl, hE43⟩
            have hz43 := hE43.size
            replace hE := hE.trans hE43
            replace hRL0 := hRL0.trans hE43
            replace hA := hA.ext hE43
            replace hB3 := hB3.ext hE43
            replace hI28 := hI28.ext hE43
            replace hB8 := hB8.ext hE43
            replace hO := hO.ext hE43
            replace hB4 := hB4.ext hE43
            replace hr40 := hr40.ext hE43
            refine WL_q rfl (ev_assign rfl) ?_
            refine WL_nil ?_
            refine thenE_n ?_
            refine W_seq ?_
            refine W_region ?_
            refine WL_q rfl (ev_move rfl) ?_
            refine WL_q rfl (ev_move rfl) ?_
            refine WL_m rfl (ev_lit1 Try.underlying23 el3 (by decide) (by decide) rfl rfl) ?_
            rintro _ w46 ⟨rfl, hN46⟩
            have hz46 := hN46.size
            replace hE := hE.trans hN46.ext
            replace hRL0 := hRL0.trans hN46.ext
            replace hA := hA.ext hN46.ext
            replace hB3 := hB3.ext hN46.ext
            replace hI28 := hI28.ext hN46.ext
            replace hB8 := hB8.ext hN46.ext
            replace hO := hO.ext hN46.ext
            replace hB4 := hB4.ext hN46.ext
            replace hr40 := hr40.ext hN46.ext
            have hB46 := hN46.blk
            refine WL_m rfl (ev_appendT Try.underlying23 el3 rfl (by decide) rfl rfl hO (SAt.of_blk (cs := [_]) (ds := []) hB46) rfl (by simp [Value.oneCell']) (by omega) (by unfold maxLen; omega) (by omega)) ?_
            rintro _ w47 ⟨a47, c47, rfl, hO47, hK47, hQ47⟩
            have hz47 := hK47.size
            replace hE := hE.rg hK47 (by omega)
            replace hRL0 := hRL0.rg hK47 (by omega)
            replace hA := hA.rg hK47 (by omega)
            replace hB3 := hB3.rg hK47 (by omega)
            replace hI28 := hI28.rg hK47 (by omega)
            replace hB8 := hB8.rg hK47 (by omega)
            replace hB4 := hB4.rg hK47 (by omega)
            replace hr40 := hr40.rg hK47 (by omega)
            replace hB46 := hB46.rg hK47 (by omega)
            replace hO := hO47
            replace hO := ownt_snocI hO
            refine WL_q rfl (ev_assign rfl) ?_
            refine WL_nil ?_
            refine thenE_n ?_
            refine W_region ?_
            refine WL_q rfl (ev_fieldAddr fo31_0 rfl) ?_
            refine WL_q rfl (ev_load one29 rfl (hB3.cell rfl)) ?_
            refine WL_q rfl (ev_load one3 rfl (hB4.cell rfl)) ?_
            have hl51 : ((wayN A.ends (bfs A.ends x) v k).1).toNat < A.ends.length := by omega
            have ht51 := totL_le hl51
            obtain ⟨a51, c51, hc51, hr51⟩ := hA.ends.row hl51
            refine WL_q rfl (ev_indexAddr Try.underlying29 sz65 rfl rfl (hA.ends.isSome (by omega)) (by omega) (by omega)) ?_
            refine WL_q rfl (ev_load one65 rfl (hc51)) ?_
            refine WL_q rfl (ev_move rfl) ?_
            refine WL_q rfl (ev_indexAddr Try.underlying65 sz68 rfl rfl (hr51.isSome (by omega)) (by omega) (by omega)) ?_
            refine WL_q rfl (ev_fieldAddr fo68_0 rfl) ?_
            refine WL_q rfl (ev_load one3 rfl (hr51.fst (i := ((twd A.ends (bfs A.ends x) (wayN A.ends (bfs A.ends x) v k).1.toNat)).toNat) (by omega))) ?_
            refine WL_s (ev_store sz3 rfl rfl rfl hB4 (by simp)) ?_
            rintro _ w10_9 hS10_9
            have hz10_9 := hS10_9.size
            replace hE := hE.sto hS10_9 (by omega)
            replace hRL0 := hRL0.sto hS10_9 (by omega)
            replace hA := hA.sto hS10_9 (by omega)
            replace hB3 := hB3.sto hS10_9 (by omega)
            replace hI28 := hI28.sto hS10_9 (by omega)
            replace hB8 := hB8.sto hS10_9 (by omega)
            replace hO := hO.sto hS10_9 (by omega)
            replace hr40 := hr40.sto hS10_9 (by omega)
            replace hB46 := hB46.sto hS10_9 (by omega)
            replace hr51 := hr51.sto hS10_9 (by omega)
            replace hB4 : Blk w10_9 _ _ [_] := hS10_9.blk
            refine WL_nil ?_
            refine blockE_n ?_
            refine thenE_n ?_
            exact ⟨(k + 1, a47, c47), (Subs.c rfl (Subs.c rfl (Subs.c rfl (Subs.c rfl Subs.n)))), (Subs.c (lkS rfl (by simp [wayN])) Subs.n), ⟨hRL0, ⟨by omega, (ownt_to hO rfl (by simp [wayN])).up (Nat.le_refl _) (by omega), (by simp only [wayN]; rw [getD_eq hw2, getD_eq ht2]; exact hB4)⟩⟩, by first | omega | (dsimp only; omega)⟩
          · have hp36 := of_decide_eq_false hg36
            refine W_exit ?_
            refine thenE_x ?_
            refine thenE_x ?_
            refine blockE_hit ?_
            refine thenE_n ?_
            refine W_seq ?_
            refine W_region ?_
            refine WL_q rfl (ev_move rfl) ?_
            refine WL_q rfl (ev_assign rfl) ?_
            refine WL_q rfl (ev_assign rfl) ?_
            refine WL_nil ?_
            refine thenE_n ?_
            refine W_ret ?_
            refine ret2 rfl rfl rfl ?_
            first | (exact ⟨none, 0, [], _, rfl, .no (fun h => hp12 h.1.1.1), OwnH.nil, by simp, hE⟩) | (exact ⟨none, 0, [], _, rfl, .no (fun h => hp17 h.1.1.2), OwnH.nil, by simp, hE⟩) | (exact ⟨none, 0, [], _, rfl, .no (fun h => hp23 h.1.2.2), OwnH.nil, by simp, hE⟩) | (exact ⟨none, 0, [], _, rfl, .no (fun h => by have := h.2; omega), OwnH.nil, by simp, hE⟩) | (have hk6 := hwe.1 (by omega); have hk7 : k = ((bfs A.ends x).getD v.toNat 0).toNat := (by omega); subst hk7; exact ⟨_, _, _, true, rfl, .yes ⟨⟨⟨hp12, hp17⟩, ⟨hp12, hp23⟩⟩, hd⟩ rfl, hO.up (by omega) (Nat.le_refl _), by omega, hE⟩)

set_option maxRecDepth 100000 in
theorem law_PathBetween (nA : NA) (A : Net) (v : Int) (x : Int) (w : World) (hA : IsNet 0 w.heap.size w nA A) (hsA : SmN A) (hiv : I64 v) (hix : I64 x) :
    Fn Try.prog 9 #[netV nA A, VI v, VI x] w (fun v w' => v = VB true ∧ Ext w w') := by
  have hE := Ext.refl w
  refine Fn_of Try.func9 rfl rfl (by kernel_rfl) rfl ?_
  refine W_seq ?_
  refine W_region ?_
  refine WL_m rfl (ev_box rfl) ?_
  rintro _ w3 ⟨rfl, hN3⟩
  have hz3 := hN3.size
  replace hE := hE.trans hN3.ext
  replace hA := hA.ext hN3.ext
  have hB3 : Blk w3 _ _ [_, _, _] := hN3.blk
  refine WL_q rfl (ev_assign rfl) ?_
  refine WL_nil ?_
  refine thenE_n ?_
  refine W_seq ?_
  refine W_region ?_
  refine WL_q rfl (ev_assign rfl) ?_
  refine WL_nil ?_
  refine thenE_n ?_
  refine W_seq ?_
  refine W_region ?_
  refine WL_q rfl (ev_loads st25 sz25 rfl (cellsB hB3) rfl) ?_
  refine WL_q rfl (ev_move rfl) ?_
  refine WL_m rfl (ev_call rfl (szNetwork_spec _ A _ _ hA (by omega) hsA)) ?_
  rintro _ w20 ⟨r20, rfl, hE20, hr20⟩
  have hz20 := hE20.size
  replace hE := hE.trans hE20
  replace hA := hA.ext hE20
  replace hB3 := hB3.ext hE20
  refine WL_q rfl (ev_assign rfl) ?_
  refine WL_nil ?_
  refine thenE_n ?_
  refine W_seq ?_
  refine W_seq ?_
  refine W_region ?_
  refine WL_q rfl (ev_move rfl) ?_
  refine WL_q rfl (ev_lss rfl rfl) ?_
  refine WL_nil ?_
  refine thenE_n ?_
  refine W_cond rfl (fun hg22 => ?_) (fun hg22 => ?_)
  · have hp22 := of_decide_eq_true hg22
    refine W_seq ?_
    refine W_region ?_
    refine WL_q rfl (ev_assign rfl) ?_
    refine WL_nil ?_
    refine thenE_n ?_
    refine W_ret ?_
    refine thenE_r ?_
    refine ret1 rfl rfl ?_
    first | (exact ⟨rfl, hE⟩) | (exact (tfX hg22).elim) | (exact (decF hg22).elim) | (exfalso; omega)
  · have hp22 := of_decide_eq_false hg22
    refine W_skip ?_
    refine thenE_n ?_
    refine W_seq ?_
    refine W_region ?_
    refine WL_q rfl (ev_loads st25 sz25 rfl (cellsB hB3) rfl) ?_
    refine WL_m rfl (ev_call rfl (toNetwork_spec _ A _ hA (by omega) (by omega))) ?_
    rintro _ w25 ⟨h25, rfl, hF25, hE25⟩
    have hz25 := hE25.size
    replace hE := hE.trans hE25
    replace hA := hA.ext hE25
    replace hB3 := hB3.ext hE25
    have hN25 := hF25.is
    refine WL_q rfl (ev_move rfl) ?_
    refine WL_q rfl (ev_move rfl) ?_
    refine WL_m rfl (ev_call rfl (sPathBetween_spec _ A _ _ _ hN25 (by omega) (by omega))) ?_
    rintro _ w28 ⟨a28, c28, y28, q28, rfl, hr28, hx28, hl28, hE28⟩
    have hz28 := hE28.size
    replace hE := hE.trans hE28
    replace hA := hA.ext hE28
    replace hB3 := hB3.ext hE28
    replace hF25 := hF25.ext hE28
    replace hN25 := hN25.ext hE28
    refine WL_q rfl (ev_move rfl) ?_
    refine WL_q rfl (ev_extract rfl rfl) ?_
    refine WL_q rfl (ev_extract rfl rfl) ?_
    refine WL_q rfl (ev_assign rfl) ?_
    refine WL_q rfl (ev_assign rfl) ?_
    refine WL_nil ?_
    refine thenE_n ?_
    refine W_seq ?_
    refine W_region ?_
    refine WL_q rfl (ev_loads st25 sz25 rfl (cellsB hB3) rfl) ?_
    refine WL_m rfl (ev_call rfl (toNetwork_spec _ A _ hA (by omega) (by omega))) ?_
    rintro _ w32 ⟨h32, rfl, hF32, hE32⟩
    have hz32 := hE32.size
    replace hE := hE.trans hE32
    replace hA := hA.ext hE32
    replace hB3 := hB3.ext hE32
    replace hF25 := hF25.ext hE32
    replace hN25 := hN25.ext hE32
    replace hx28 := hx28.ext hE32
    have hN32 := hF32.is
    refine WL_m rfl (ev_alloc zr31) ?_
    rintro _ w10 ⟨rfl, hN10⟩
    have hz10 := hN10.size
    replace hE := hE.trans hN10.ext
    replace hA := hA.ext hN10.ext
    replace hB3 := hB3.ext hN10.ext
    replace hF25 := hF25.ext hN10.ext
    replace hN25 := hN25.ext hN10.ext
    replace hx28 := hx28.ext hN10.ext
    replace hF32 := hF32.ext hN10.ext
    replace hN32 := hN32.ext hN10.ext
    have hB10 : Blk w10 _ _ [_, _, _] := hN10.blk
    refine WL_s (ev_stores sz31 rfl rfl rfl (by simp [Value.oneCell']) hB10 (by simp)) ?_
    rintro _ w6_3 hS6_3
    have hz6_3 := hS6_3.size
    replace hE := hE.sto hS6_3 (by omega)
    replace hA := hA.sto hS6_3 (by omega)
    replace hB3 := hB3.sto hS6_3 (by omega)
    replace hF25 := hF25.sto hS6_3 (by omega)
    replace hN25 := hN25.sto hS6_3 (by omega)
    replace hx28 := hx28.sto hS6_3 (by omega)
    replace hF32 := hF32.sto hS6_3 (by omega)
    replace hN32 := hN32.sto hS6_3 (by omega)
    replace hB10 : Blk w6_3 _ _ [_, _, _] := hS6_3.blk
    refine WL_nil ?_
    refine thenE_n ?_
    refine W_seq ?_
    refine W_region ?_
    refine WL_q rfl (ev_loads st31 sz31 rfl (cellsB hB10) rfl) ?_
    refine WL_q rfl (ev_move rfl) ?_
    refine WL_q rfl (ev_move rfl) ?_
    refine WL_m rfl (ev_call rfl (PathBetween_spec _ A _ _ _ hN32 (by omega) (by omega))) ?_
    rintro _ w37 ⟨a37, c37, y37, q37, rfl, hr37, hO37, hl37, hE37⟩
    have hz37 := hE37.size
    replace hE := hE.trans hE37
    replace hA := hA.ext hE37
    replace hB3 := hB3.ext hE37
    replace hF25 := hF25.ext hE37
    replace hN25 := hN25.ext hE37
    replace hx28 := hx28.ext hE37
    replace hF32 := hF32.ext hE37
    replace hN32 := hN32.ext hE37
    replace hB10 := hB10.ext hE37
    refine WL_q rfl (ev_move rfl) ?_
    refine WL_q rfl (ev_extract rfl rfl) ?_
    refine WL_q rfl (ev_extract rfl rfl) ?_
    refine WL_q rfl (ev_assign rfl) ?_
    refine WL_q rfl (ev_assign rfl) ?_
    refine WL_nil ?_
    refine thenE_n ?_
    refine W_seq ?_
    refine W_seq ?_
    refine W_region ?_
    refine WL_q rfl (ev_move rfl) ?_
    refine WL_q rfl (ev_move rfl) ?_
    refine WL_m rfl (ev_call rfl (eqIntS_spec _ _ _ _ y37 y28 _ (ownt_i hO37) hx28 (by omega))) ?_
    rintro _ w42 ⟨rfl, hE42⟩
    have hz42 := hE42.size
    replace hE := hE.trans hE42
    replace hA := hA.ext hE42
    replace hB3 := hB3.ext hE42
    replace hF25 := hF25.ext hE42
    replace hN25 := hN25.ext hE42
    replace hx28 := hx28.ext hE42
    replace hF32 := hF32.ext hE42
    replace hN32 := hN32.ext hE42
    replace hB10 := hB10.ext hE42
    replace hO37 := hO37.ext hE42
    refine WL_q rfl (ev_not rfl) ?_
    refine WL_q rfl (ev_move rfl) ?_
    refine WL_splitv (t := 44) rfl (fun hg43 => ?_) (fun hg43 => ?_)
    · have hg42 := not_true hg43
      refine WL_no rfl rfl hg43 rfl ?_
      refine WL_no rfl rfl hg43 rfl ?_
      refine WL_no rfl rfl hg43 rfl ?_
      refine WL_q rfl (ev_pick_t rfl hg43 rfl) ?_
      refine WL_nil ?_
      refine thenE_n ?_
      refine W_cond_t rfl ?_
      refine W_seq ?_
      refine W_region ?_
      refine WL_q rfl (ev_assign rfl) ?_
      refine WL_nil ?_
      refine thenE_n ?_
      refine W_ret ?_
      refine thenE_r ?_
      refine ret1 rfl rfl ?_
      first | (exact ⟨rfl, hE⟩) | (exact (bneE hg42 (hr37.det1 hr28)).elim) | (exact absurd (hr37.det1 hr28) hp42) | (exact absurd (hr37.det1 hr28) (of_decide_eq_false hg42)) | (exact (bneE hg42 (hr37.det2 hr28)).elim) | (exact absurd (hr37.det2 hr28) hp42) | (exact absurd (hr37.det2 hr28) (of_decide_eq_false hg42)) | (exact (bneE hg42 (hr37.det3 hr28)).elim) | (exact absurd (hr37.det3 hr28) hp42) | (exact absurd (hr37.det3 hr28) (of_decide_eq_false hg42)) | (exact (tfX hg42).elim) | (exact (decF hg42).elim) | (exfalso; omega)
    · have hg42 := not_false hg43
      refine WL_qg rfl rfl hg43 rfl (ev_move rfl) ?_
      refine WL_qg rfl rfl hg43 rfl (ev_move rfl) ?_
      refine WL_qg rfl rfl hg43 rfl (ev_neq_b Try.underlying4 rfl rfl) ?_
      refine WL_q rfl (ev_pick_f rfl hg43 rfl) ?_
      refine WL_nil ?_
      refine thenE_n ?_
      refine W_cond rfl (fun hg47 => ?_) (fun hg47 => ?_)
      · refine W_seq ?_
        refine W_region ?_
        refine WL_q rfl (ev_assign rfl) ?_
        refine WL_nil ?_
        refine thenE_n ?_
        refine W_ret ?_
        refine thenE_r ?_
        refine ret1 rfl rfl ?_
        first | (exact ⟨rfl, hE⟩) | (exact (bneE hg47 (hr37.det1 hr28)).elim) | (exact absurd (hr37.det1 hr28) hp47) | (exact absurd (hr37.det1 hr28) (of_decide_eq_false hg47)) | (exact (bneE hg47 (hr37.det2 hr28)).elim) | (exact absurd (hr37.det2 hr28) hp47) | (exact absurd (hr37.det2 hr28) (of_decide_eq_false hg47)) | (exact (bneE hg47 (hr37.det3 hr28)).elim) | (exact absurd (hr37.det3 hr28) hp47) | (exact absurd (hr37.det3 hr28) (of_decide_eq_false hg47)) | (exact (tfX hg47).elim) | (exact (decF hg47).elim) | (exfalso; omega)
      · refine W_skip ?_
        refine thenE_n ?_
        refine W_seq ?_
        refine W_seq ?_
        refine W_drawE [(0, true), (1, true), (2, false), (3, false), (4, true)] mixed (by kernel_rfl) rfl (by kernel_rfl) ?_
        intro wd10 hEd10 hzd10
        replace hE := hE.trans hEd10
        replace hA := hA.ext hEd10
        replace hB3 := hB3.ext hEd10
        replace hF25 := hF25.ext hEd10
        replace hN25 := hN25.ext hEd10
        replace hx28 := hx28.ext hEd10
        replace hF32 := hF32.ext hEd10
        replace hN32 := hN32.ext hEd10
        replace hB10 := hB10.ext hEd10
        replace hO37 := hO37.ext hEd10
        have hDd10 := Ext.refl wd10
        refine PW_q rfl rfl (fun wq hq => ev_loads st31 sz31 rfl (cellsB (hq.blk hB10)) rfl) ?_
        refine PW_q rfl rfl (fun wq hq => ev_loads st25 sz25 rfl (cellsB (hq.blk hB3)) rfl) ?_
        refine PW_m rfl rfl (ev_call rfl (toNetwork_spec _ A _ hA (by omega) (by omega))) ?_
        rintro _ w51 ⟨h51, rfl, hF51, hE51⟩
        have hz51 := hE51.size
        replace hE := hE.trans hE51
        replace hDd10 := hDd10.trans hE51
        have hN51 := hF51.is
        refine ⟨hDd10, ?_⟩
        have hA_3 := hA.ext hDd10
        have hB3_3 := hB3.ext hDd10
        have hF25_3 := hF25.ext hDd10
        have hN25_3 := hN25.ext hDd10
        have hx28_3 := hx28.ext hDd10
        have hF32_3 := hF32.ext hDd10
        have hN32_3 := hN32.ext hDd10
        have hB10_3 := hB10.ext hDd10
        have hO37_3 := hO37.ext hDd10
        refine PW_m rfl rfl (ev_call rfl (eqNetwork_spec _ _ A _ hN32_3 hN51 (by omega))) ?_
        rintro _ w52 ⟨rfl, hE52⟩
        have hz52 := hE52.size
        replace hE := hE.trans hE52
        replace hDd10 := hDd10.trans hE52
        replace hF51 := hF51.ext hE52
        replace hN51 := hN51.ext hE52
        refine ⟨hDd10, ?_⟩
        refine PW_q rfl rfl (fun wq hq => ev_not rfl) ?_
        replace hA := hA.ext hDd10
        replace hB3 := hB3.ext hDd10
        replace hF25 := hF25.ext hDd10
        replace hN25 := hN25.ext hDd10
        replace hx28 := hx28.ext hDd10
        replace hF32 := hF32.ext hDd10
        replace hN32 := hN32.ext hDd10
        replace hB10 := hB10.ext hDd10
        replace hO37 := hO37.ext hDd10
        refine PW_nil ?_
        refine thenE_n ?_
        refine W_cond rfl (fun hg53 => ?_) (fun hg53 => ?_)
        · have hg52 := not_true hg53
          refine W_seq ?_
          refine W_region ?_
          refine WL_q rfl (ev_assign rfl) ?_
          refine WL_nil ?_
          refine thenE_n ?_
          refine W_ret ?_
          refine thenE_r ?_
          refine ret1 rfl rfl ?_
          first | (exact ⟨rfl, hE⟩) | (exact (bneE hg52 (hr37.det1 hr28)).elim) | (exact absurd (hr37.det1 hr28) hp52) | (exact absurd (hr37.det1 hr28) (of_decide_eq_false hg52)) | (exact (bneE hg52 (hr37.det2 hr28)).elim) | (exact absurd (hr37.det2 hr28) hp52) | (exact absurd (hr37.det2 hr28) (of_decide_eq_false hg52)) | (exact (bneE hg52 (hr37.det3 hr28)).elim) | (exact absurd (hr37.det3 hr28) hp52) | (exact absurd (hr37.det3 hr28) (of_decide_eq_false hg52)) | (exact (tfX hg52).elim) | (exact (decF hg52).elim) | (exfalso; omega)
        · have hg52 := not_false hg53
          refine W_skip ?_
          refine thenE_n ?_
          refine W_seq ?_
          refine W_region ?_
          refine WL_q rfl (ev_assign rfl) ?_
          refine WL_nil ?_
          refine thenE_n ?_
          refine W_seq ?_
          refine W_region ?_
          refine WL_q rfl (ev_loads st31 sz31 rfl (cellsB hB10) rfl) ?_
          refine WL_q rfl (ev_move rfl) ?_
          refine WL_m rfl (ev_call rfl (markNetwork_spec _ A _ _ hF32 (by omega) (by omega) (by omega))) ?_
          rintro _ w56 ⟨r56, rfl, hr56, hK56⟩
          have hz56 := hK56.size
          replace hE := hE.mrk hK56 (by omega)
          replace hA := hA.mrk hK56 (by omega)
          replace hB3 := hB3.mrk hK56 (by omega)
          replace hF25 := hF25.mrk hK56 (by omega)
          replace hN25 := hN25.mrk hK56 (by omega)
          replace hx28 := hx28.mrk hK56 (by omega)
          replace hB10 := hB10.mrk hK56 (by omega)
          replace hO37 := hO37.mrk hK56 (by omega)
          replace hF51 := hF51.mrk hK56 (by omega)
          replace hN51 := hN51.mrk hK56 (by omega)
          refine WL_q rfl (ev_assign rfl) ?_
          refine WL_nil ?_
          refine thenE_n ?_
          refine W_seq ?_
          refine W_seq ?_
          refine W_region ?_
          refine WL_q rfl (ev_move rfl) ?_
          refine WL_q rfl (ev_lss rfl rfl) ?_
          refine WL_q rfl (ev_move rfl) ?_
          refine WL_splitv (t := 59) rfl (fun hg58 => ?_) (fun hg58 => ?_)
          · have hp58 := of_decide_eq_true hg58
            refine WL_no rfl rfl hg58 rfl ?_
            refine WL_no rfl rfl hg58 rfl ?_
            refine WL_no rfl rfl hg58 rfl ?_
            refine WL_no rfl rfl hg58 rfl ?_
            refine WL_q rfl (ev_pick_t rfl hg58 rfl) ?_
            refine WL_q rfl (ev_move rfl) ?_
            refine WL_no rfl rfl rfl rfl ?_
            refine WL_no rfl rfl rfl rfl ?_
            refine WL_no rfl rfl rfl rfl ?_
            refine WL_q rfl (ev_pick_t rfl rfl rfl) ?_
            refine WL_nil ?_
            refine thenE_n ?_
            refine W_cond_t rfl ?_
            refine W_seq ?_
            refine W_region ?_
            refine WL_q rfl (ev_assign rfl) ?_
            refine WL_nil ?_
            refine thenE_n ?_
            refine W_ret ?_
            refine thenE_r ?_
            refine ret1 rfl rfl ?_
            first | (exact ⟨rfl, hE⟩) | (exact (bneE hg58 (hr37.det1 hr28)).elim) | (exact absurd (hr37.det1 hr28) hp58) | (exact absurd (hr37.det1 hr28) (of_decide_eq_false hg58)) | (exact (bneE hg58 (hr37.det2 hr28)).elim) | (exact absurd (hr37.det2 hr28) hp58) | (exact absurd (hr37.det2 hr28) (of_decide_eq_false hg58)) | (exact (bneE hg58 (hr37.det3 hr28)).elim) | (exact absurd (hr37.det3 hr28) hp58) | (exact absurd (hr37.det3 hr28) (of_decide_eq_false hg58)) | (exact (tfX hg58).elim) | (exact (decF hg58).elim) | (exfalso; omega)
          · have hp58 := of_decide_eq_false hg58
            refine WL_qg rfl rfl hg58 rfl (ev_move rfl) ?_
            refine WL_qg rfl rfl hg58 rfl (ev_move rfl) ?_
            refine WL_mg rfl rfl hg58 rfl (ev_call rfl (eqIntS_spec _ _ _ _ y37 y28 _ (ownt_i hO37) hx28 (by omega))) ?_
            rintro _ w62 ⟨rfl, hE62⟩
            have hz62 := hE62.size
            replace hE := hE.trans hE62
            replace hA := hA.ext hE62
            replace hB3 := hB3.ext hE62
            replace hF25 := hF25.ext hE62
            replace hN25 := hN25.ext hE62
            replace hx28 := hx28.ext hE62
            replace hB10 := hB10.ext hE62
            replace hO37 := hO37.ext hE62
            replace hF51 := hF51.ext hE62
            replace hN51 := hN51.ext hE62
            refine WL_qg rfl rfl hg58 rfl (ev_not rfl) ?_
            refine WL_q rfl (ev_pick_f rfl hg58 rfl) ?_
            refine WL_q rfl (ev_move rfl) ?_
            refine WL_splitv (t := 65) rfl (fun hg63 => ?_) (fun hg63 => ?_)
            · have hg62 := not_true hg63
              refine WL_no rfl rfl hg63 rfl ?_
              refine WL_no rfl rfl hg63 rfl ?_
              refine WL_no rfl rfl hg63 rfl ?_
              refine WL_q rfl (ev_pick_t rfl hg63 rfl) ?_
              refine WL_nil ?_
              refine thenE_n ?_
              refine W_cond_t rfl ?_
              refine W_seq ?_
              refine W_region ?_
              refine WL_q rfl (ev_assign rfl) ?_
              refine WL_nil ?_
              refine thenE_n ?_
              refine W_ret ?_
              refine thenE_r ?_
              refine ret1 rfl rfl ?_
              first | (exact ⟨rfl, hE⟩) | (exact (bneE hg62 (hr37.det1 hr28)).elim) | (exact absurd (hr37.det1 hr28) hp62) | (exact absurd (hr37.det1 hr28) (of_decide_eq_false hg62)) | (exact (bneE hg62 (hr37.det2 hr28)).elim) | (exact absurd (hr37.det2 hr28) hp62) | (exact absurd (hr37.det2 hr28) (of_decide_eq_false hg62)) | (exact (bneE hg62 (hr37.det3 hr28)).elim) | (exact absurd (hr37.det3 hr28) hp62) | (exact absurd (hr37.det3 hr28) (of_decide_eq_false hg62)) | (exact (tfX hg62).elim) | (exact (decF hg62).elim) | (exfalso; omega)
            · have hg62 := not_false hg63
              refine WL_qg rfl rfl hg63 rfl (ev_move rfl) ?_
              refine WL_qg rfl rfl hg63 rfl (ev_move rfl) ?_
              refine WL_qg rfl rfl hg63 rfl (ev_neq_b Try.underlying4 rfl rfl) ?_
              refine WL_q rfl (ev_pick_f rfl hg63 rfl) ?_
              refine WL_nil ?_
              refine thenE_n ?_
              refine W_cond rfl (fun hg68 => ?_) (fun hg68 => ?_)
              · refine W_seq ?_
                refine W_region ?_
                refine WL_q rfl (ev_assign rfl) ?_
                refine WL_nil ?_
                refine thenE_n ?_
                refine W_ret ?_
                refine thenE_r ?_
                refine ret1 rfl rfl ?_
                first | (exact ⟨rfl, hE⟩) | (exact (bneE hg68 (hr37.det1 hr28)).elim) | (exact absurd (hr37.det1 hr28) hp68) | (exact absurd (hr37.det1 hr28) (of_decide_eq_false hg68)) | (exact (bneE hg68 (hr37.det2 hr28)).elim) | (exact absurd (hr37.det2 hr28) hp68) | (exact absurd (hr37.det2 hr28) (of_decide_eq_false hg68)) | (exact (bneE hg68 (hr37.det3 hr28)).elim) | (exact absurd (hr37.det3 hr28) hp68) | (exact absurd (hr37.det3 hr28) (of_decide_eq_false hg68)) | (exact (tfX hg68).elim) | (exact (decF hg68).elim) | (exfalso; omega)
              · refine W_skip ?_
                refine thenE_n ?_
                refine W_seq ?_
                refine W_region ?_
                refine WL_q rfl (ev_assign rfl) ?_
                refine WL_nil ?_
                refine thenE_n ?_
                refine W_seq ?_
                refine W_region ?_
                refine WL_q rfl (ev_move rfl) ?_
                refine WL_q rfl (ev_move rfl) ?_
                refine WL_m rfl (ev_call rfl (markIntS_ownH hO37 (by omega) (by omega))) ?_
                rintro _ w72 ⟨rfl, hO72, hK72⟩
                have hz72 := hK72.size
                have hR72 := hK72
                replace hE := hE.rg hR72 (by omega)
                replace hA := hA.rg hR72 (by omega)
                replace hB3 := hB3.rg hR72 (by omega)
                replace hF25 := hF25.rg hR72 (by omega)
                replace hN25 := hN25.rg hR72 (by omega)
                replace hx28 := hx28.rg hR72 (by omega)
                replace hB10 := hB10.rg hR72 (by omega)
                replace hF51 := hF51.rg hR72 (by omega)
                replace hN51 := hN51.rg hR72 (by omega)
                replace hO37 := hO72
                refine WL_q rfl (ev_assign rfl) ?_
                refine WL_nil ?_
                refine thenE_n ?_
                refine W_seq ?_
                refine W_region ?_
                refine WL_q rfl (ev_assign rfl) ?_
                refine WL_nil ?_
                refine thenE_n ?_
                refine W_seq ?_
                refine W_region ?_
                refine WL_q rfl (ev_move rfl) ?_
                refine WL_q rfl (ev_move rfl) ?_
                refine WL_m rfl (ev_call rfl (heldIntS_spec _ _ (nums 1 y37.length) _ _ (Ints.of_own (nums_len _ _) hO37.1) rfl (by omega) (by omega))) ?_
                rintro _ w75 ⟨rfl, hE75⟩
                have hz75 := hE75.size
                replace hE := hE.trans hE75
                replace hA := hA.ext hE75
                replace hB3 := hB3.ext hE75
                replace hF25 := hF25.ext hE75
                replace hN25 := hN25.ext hE75
                replace hx28 := hx28.ext hE75
                replace hB10 := hB10.ext hE75
                replace hO37 := hO37.ext hE75
                replace hF51 := hF51.ext hE75
                replace hN51 := hN51.ext hE75
                refine WL_q rfl (ev_assign rfl) ?_
                refine WL_nil ?_
                refine thenE_n ?_
                refine W_seq ?_
                refine W_seq ?_
                refine W_region ?_
                refine WL_q rfl (ev_move rfl) ?_
                refine WL_q rfl (ev_lss rfl rfl) ?_
                refine WL_nil ?_
                refine thenE_n ?_
                refine W_cond rfl (fun hg77 => ?_) (fun hg77 => ?_)
                · have hp77 := of_decide_eq_true hg77
                  refine W_seq ?_
                  refine W_region ?_
                  refine WL_q rfl (ev_assign rfl) ?_
                  refine WL_nil ?_
                  refine thenE_n ?_
                  refine W_ret ?_
                  refine thenE_r ?_
                  refine ret1 rfl rfl ?_
                  first | (exact ⟨rfl, hE⟩) | (exact (bneE hg77 (hr37.det1 hr28)).elim) | (exact absurd (hr37.det1 hr28) hp77) | (exact absurd (hr37.det1 hr28) (of_decide_eq_false hg77)) | (exact (bneE hg77 (hr37.det2 hr28)).elim) | (exact absurd (hr37.det2 hr28) hp77) | (exact absurd (hr37.det2 hr28) (of_decide_eq_false hg77)) | (exact (bneE hg77 (hr37.det3 hr28)).elim) | (exact absurd (hr37.det3 hr28) hp77) | (exact absurd (hr37.det3 hr28) (of_decide_eq_false hg77)) | (exact (tfX hg77).elim) | (exact (decF hg77).elim) | (exfalso; omega)
                · have hp77 := of_decide_eq_false hg77
                  refine W_skip ?_
                  refine thenE_n ?_
                  refine W_seq ?_
                  refine W_seq ?_
                  refine W_region ?_
                  refine WL_q rfl (ev_move rfl) ?_
                  refine WL_q rfl (ev_move rfl) ?_
                  refine WL_q rfl (ev_neq rfl rfl) ?_
                  refine WL_nil ?_
                  refine thenE_n ?_
                  refine W_cond rfl (fun hg80 => ?_) (fun hg80 => ?_)
                  · have hp80 := of_decide_eq_true hg80
                    refine W_seq ?_
                    refine W_region ?_
                    refine WL_q rfl (ev_assign rfl) ?_
                    refine WL_nil ?_
                    refine thenE_n ?_
                    refine W_ret ?_
                    refine thenE_r ?_
                    refine ret1 rfl rfl ?_
                    first | (exact ⟨rfl, hE⟩) | (exact (bneE hg80 (hr37.det1 hr28)).elim) | (exact absurd (hr37.det1 hr28) hp80) | (exact absurd (hr37.det1 hr28) (of_decide_eq_false hg80)) | (exact (bneE hg80 (hr37.det2 hr28)).elim) | (exact absurd (hr37.det2 hr28) hp80) | (exact absurd (hr37.det2 hr28) (of_decide_eq_false hg80)) | (exact (bneE hg80 (hr37.det3 hr28)).elim) | (exact absurd (hr37.det3 hr28) hp80) | (exact absurd (hr37.det3 hr28) (of_decide_eq_false hg80)) | (exact (tfX hg80).elim) | (exact (decF hg80).elim) | (exfalso; omega)
                  · have hp80 := of_decide_eq_false hg80
                    refine W_skip ?_
                    refine thenE_n ?_
                    refine W_seq ?_
                    refine W_region ?_
                    refine WL_q rfl (ev_loads st25 sz25 rfl (cellsB hB3) rfl) ?_
                    refine WL_m rfl (ev_call rfl (toNetwork_spec _ A _ hA (by omega) (by omega))) ?_
                    rintro _ w83 ⟨h83, rfl, hF83, hE83⟩
                    have hz83 := hE83.size
                    replace hE := hE.trans hE83
                    replace hA := hA.ext hE83
                    replace hB3 := hB3.ext hE83
                    replace hF25 := hF25.ext hE83
                    replace hN25 := hN25.ext hE83
                    replace hx28 := hx28.ext hE83
                    replace hB10 := hB10.ext hE83
                    replace hO37 := hO37.ext hE83
                    replace hF51 := hF51.ext hE83
                    replace hN51 := hN51.ext hE83
                    have hN83 := hF83.is
                    refine WL_q rfl (ev_move rfl) ?_
                    refine WL_q rfl (ev_move rfl) ?_
                    refine WL_m rfl (ev_call rfl (PathBetween_spec _ A _ _ _ hN83 (by omega) (by omega))) ?_
                    rintro _ w86 ⟨a86, c86, y86, q86, rfl, hr86, hO86, hl86, hE86⟩
                    have hz86 := hE86.size
                    replace hE := hE.trans hE86
                    replace hA := hA.ext hE86
                    replace hB3 := hB3.ext hE86
                    replace hF25 := hF25.ext hE86
                    replace hN25 := hN25.ext hE86
                    replace hx28 := hx28.ext hE86
                    replace hB10 := hB10.ext hE86
                    replace hO37 := hO37.ext hE86
                    replace hF51 := hF51.ext hE86
                    replace hN51 := hN51.ext hE86
                    replace hF83 := hF83.ext hE86
                    replace hN83 := hN83.ext hE86
                    refine WL_q rfl (ev_move rfl) ?_
                    refine WL_q rfl (ev_extract rfl rfl) ?_
                    refine WL_q rfl (ev_extract rfl rfl) ?_
                    refine WL_q rfl (ev_assign rfl) ?_
                    refine WL_q rfl (ev_assign rfl) ?_
                    refine WL_nil ?_
                    refine thenE_n ?_
                    refine W_seq ?_
                    refine W_seq ?_
                    refine W_region ?_
                    refine WL_q rfl (ev_move rfl) ?_
                    refine WL_q rfl (ev_move rfl) ?_
                    refine WL_m rfl (ev_call rfl (eqIntS_spec _ _ _ _ y86 y28 _ (ownt_i hO86) hx28 (by omega))) ?_
                    rintro _ w91 ⟨rfl, hE91⟩
                    have hz91 := hE91.size
                    replace hE := hE.trans hE91
                    replace hA := hA.ext hE91
                    replace hB3 := hB3.ext hE91
                    replace hF25 := hF25.ext hE91
                    replace hN25 := hN25.ext hE91
                    replace hx28 := hx28.ext hE91
                    replace hB10 := hB10.ext hE91
                    replace hO37 := hO37.ext hE91
                    replace hF51 := hF51.ext hE91
                    replace hN51 := hN51.ext hE91
                    replace hF83 := hF83.ext hE91
                    replace hN83 := hN83.ext hE91
                    replace hO86 := hO86.ext hE91
                    refine WL_q rfl (ev_not rfl) ?_
                    refine WL_q rfl (ev_move rfl) ?_
                    refine WL_splitv (t := 93) rfl (fun hg92 => ?_) (fun hg92 => ?_)
                    · have hg91 := not_true hg92
                      refine WL_no rfl rfl hg92 rfl ?_
                      refine WL_no rfl rfl hg92 rfl ?_
                      refine WL_no rfl rfl hg92 rfl ?_
                      refine WL_q rfl (ev_pick_t rfl hg92 rfl) ?_
                      refine WL_nil ?_
                      refine thenE_n ?_
                      refine W_cond_t rfl ?_
                      refine W_seq ?_
                      refine W_region ?_
                      refine WL_q rfl (ev_assign rfl) ?_
                      refine WL_nil ?_
                      refine thenE_n ?_
                      refine W_ret ?_
                      refine thenE_r ?_
                      refine ret1 rfl rfl ?_
                      first | (exact ⟨rfl, hE⟩) | (exact (bneE hg91 (hr86.det1 hr28)).elim) | (exact absurd (hr86.det1 hr28) hp91) | (exact absurd (hr86.det1 hr28) (of_decide_eq_false hg91)) | (exact (bneE hg91 (hr86.det2 hr28)).elim) | (exact absurd (hr86.det2 hr28) hp91) | (exact absurd (hr86.det2 hr28) (of_decide_eq_false hg91)) | (exact (bneE hg91 (hr86.det3 hr28)).elim) | (exact absurd (hr86.det3 hr28) hp91) | (exact absurd (hr86.det3 hr28) (of_decide_eq_false hg91)) | (exact (bneE hg91 (hr37.det1 hr28)).elim) | (exact absurd (hr37.det1 hr28) hp91) | (exact absurd (hr37.det1 hr28) (of_decide_eq_false hg91)) | (exact (bneE hg91 (hr37.det2 hr28)).elim) | (exact absurd (hr37.det2 hr28) hp91) | (exact absurd (hr37.det2 hr28) (of_decide_eq_false hg91)) | (exact (bneE hg91 (hr37.det3 hr28)).elim) | (exact absurd (hr37.det3 hr28) hp91) | (exact absurd (hr37.det3 hr28) (of_decide_eq_false hg91)) | (exact (tfX hg91).elim) | (exact (decF hg91).elim) | (exfalso; omega)
                    · have hg91 := not_false hg92
                      refine WL_qg rfl rfl hg92 rfl (ev_move rfl) ?_
                      refine WL_qg rfl rfl hg92 rfl (ev_move rfl) ?_
                      refine WL_qg rfl rfl hg92 rfl (ev_neq_b Try.underlying4 rfl rfl) ?_
                      refine WL_q rfl (ev_pick_f rfl hg92 rfl) ?_
                      refine WL_nil ?_
                      refine thenE_n ?_
                      refine W_cond rfl (fun hg96 => ?_) (fun hg96 => ?_)
                      · refine W_seq ?_
                        refine W_region ?_
                        refine WL_q rfl (ev_assign rfl) ?_
                        refine WL_nil ?_
                        refine thenE_n ?_
                        refine W_ret ?_
                        refine thenE_r ?_
                        refine ret1 rfl rfl ?_
                        first | (exact ⟨rfl, hE⟩) | (exact (bneE hg96 (hr86.det1 hr28)).elim) | (exact absurd (hr86.det1 hr28) hp96) | (exact absurd (hr86.det1 hr28) (of_decide_eq_false hg96)) | (exact (bneE hg96 (hr86.det2 hr28)).elim) | (exact absurd (hr86.det2 hr28) hp96) | (exact absurd (hr86.det2 hr28) (of_decide_eq_false hg96)) | (exact (bneE hg96 (hr86.det3 hr28)).elim) | (exact absurd (hr86.det3 hr28) hp96) | (exact absurd (hr86.det3 hr28) (of_decide_eq_false hg96)) | (exact (bneE hg96 (hr37.det1 hr28)).elim) | (exact absurd (hr37.det1 hr28) hp96) | (exact absurd (hr37.det1 hr28) (of_decide_eq_false hg96)) | (exact (bneE hg96 (hr37.det2 hr28)).elim) | (exact absurd (hr37.det2 hr28) hp96) | (exact absurd (hr37.det2 hr28) (of_decide_eq_false hg96)) | (exact (bneE hg96 (hr37.det3 hr28)).elim) | (exact absurd (hr37.det3 hr28) hp96) | (exact absurd (hr37.det3 hr28) (of_decide_eq_false hg96)) | (exact (tfX hg96).elim) | (exact (decF hg96).elim) | (exfalso; omega)
                      · refine W_skip ?_
                        refine thenE_n ?_
                        refine W_seq ?_
                        refine W_region ?_
                        refine WL_q rfl (ev_assign rfl) ?_
                        refine WL_nil ?_
                        refine thenE_n ?_
                        refine W_seq ?_
                        refine W_region ?_
                        refine WL_q rfl (ev_move rfl) ?_
                        refine WL_q rfl (ev_move rfl) ?_
                        refine WL_m rfl (ev_call rfl (heldIntS_spec _ _ (nums 1 y37.length) _ _ (Ints.of_own (nums_len _ _) hO37.1) rfl (by omega) (by omega))) ?_
                        rintro _ w100 ⟨rfl, hE100⟩
                        have hz100 := hE100.size
                        replace hE := hE.trans hE100
                        replace hA := hA.ext hE100
                        replace hB3 := hB3.ext hE100
                        replace hF25 := hF25.ext hE100
                        replace hN25 := hN25.ext hE100
                        replace hx28 := hx28.ext hE100
                        replace hB10 := hB10.ext hE100
                        replace hO37 := hO37.ext hE100
                        replace hF51 := hF51.ext hE100
                        replace hN51 := hN51.ext hE100
                        replace hF83 := hF83.ext hE100
                        replace hN83 := hN83.ext hE100
                        replace hO86 := hO86.ext hE100
                        refine WL_q rfl (ev_assign rfl) ?_
                        refine WL_nil ?_
                        refine thenE_n ?_
                        refine W_seq ?_
                        refine W_seq ?_
                        refine W_region ?_
                        refine WL_q rfl (ev_move rfl) ?_
                        refine WL_q rfl (ev_lss rfl rfl) ?_
                        refine WL_nil ?_
                        refine thenE_n ?_
                        refine W_cond rfl (fun hg102 => ?_) (fun hg102 => ?_)
                        · have hp102 := of_decide_eq_true hg102
                          refine W_seq ?_
                          refine W_region ?_
                          refine WL_q rfl (ev_assign rfl) ?_
                          refine WL_nil ?_
                          refine thenE_n ?_
                          refine W_ret ?_
                          refine thenE_r ?_
                          refine ret1 rfl rfl ?_
                          first | (exact ⟨rfl, hE⟩) | (exact (bneE hg102 (hr86.det1 hr28)).elim) | (exact absurd (hr86.det1 hr28) hp102) | (exact absurd (hr86.det1 hr28) (of_decide_eq_false hg102)) | (exact (bneE hg102 (hr86.det2 hr28)).elim) | (exact absurd (hr86.det2 hr28) hp102) | (exact absurd (hr86.det2 hr28) (of_decide_eq_false hg102)) | (exact (bneE hg102 (hr86.det3 hr28)).elim) | (exact absurd (hr86.det3 hr28) hp102) | (exact absurd (hr86.det3 hr28) (of_decide_eq_false hg102)) | (exact (bneE hg102 (hr37.det1 hr28)).elim) | (exact absurd (hr37.det1 hr28) hp102) | (exact absurd (hr37.det1 hr28) (of_decide_eq_false hg102)) | (exact (bneE hg102 (hr37.det2 hr28)).elim) | (exact absurd (hr37.det2 hr28) hp102) | (exact absurd (hr37.det2 hr28) (of_decide_eq_false hg102)) | (exact (bneE hg102 (hr37.det3 hr28)).elim) | (exact absurd (hr37.det3 hr28) hp102) | (exact absurd (hr37.det3 hr28) (of_decide_eq_false hg102)) | (exact (tfX hg102).elim) | (exact (decF hg102).elim) | (exfalso; omega)
                        · have hp102 := of_decide_eq_false hg102
                          refine W_skip ?_
                          refine thenE_n ?_
                          refine W_seq ?_
                          refine W_seq ?_
                          refine W_region ?_
                          refine WL_q rfl (ev_move rfl) ?_
                          refine WL_q rfl (ev_move rfl) ?_
                          refine WL_q rfl (ev_neq rfl rfl) ?_
                          refine WL_nil ?_
                          refine thenE_n ?_
                          refine W_cond rfl (fun hg105 => ?_) (fun hg105 => ?_)
                          · have hp105 := of_decide_eq_true hg105
                            refine W_seq ?_
                            refine W_region ?_
                            refine WL_q rfl (ev_assign rfl) ?_
                            refine WL_nil ?_
                            refine thenE_n ?_
                            refine W_ret ?_
                            refine thenE_r ?_
                            refine ret1 rfl rfl ?_
                            first | (exact ⟨rfl, hE⟩) | (exact (bneE hg105 (hr86.det1 hr28)).elim) | (exact absurd (hr86.det1 hr28) hp105) | (exact absurd (hr86.det1 hr28) (of_decide_eq_false hg105)) | (exact (bneE hg105 (hr86.det2 hr28)).elim) | (exact absurd (hr86.det2 hr28) hp105) | (exact absurd (hr86.det2 hr28) (of_decide_eq_false hg105)) | (exact (bneE hg105 (hr86.det3 hr28)).elim) | (exact absurd (hr86.det3 hr28) hp105) | (exact absurd (hr86.det3 hr28) (of_decide_eq_false hg105)) | (exact (bneE hg105 (hr37.det1 hr28)).elim) | (exact absurd (hr37.det1 hr28) hp105) | (exact absurd (hr37.det1 hr28) (of_decide_eq_false hg105)) | (exact (bneE hg105 (hr37.det2 hr28)).elim) | (exact absurd (hr37.det2 hr28) hp105) | (exact absurd (hr37.det2 hr28) (of_decide_eq_false hg105)) | (exact (bneE hg105 (hr37.det3 hr28)).elim) | (exact absurd (hr37.det3 hr28) hp105) | (exact absurd (hr37.det3 hr28) (of_decide_eq_false hg105)) | (exact (tfX hg105).elim) | (exact (decF hg105).elim) | (exfalso; omega)
                          · have hp105 := of_decide_eq_false hg105
                            refine W_skip ?_
                            refine thenE_n ?_
                            refine W_seq ?_
                            refine W_region ?_
                            refine WL_q rfl (ev_assign rfl) ?_
                            refine WL_nil ?_
                            refine thenE_n ?_
                            refine W_ret ?_
                            refine ret1 rfl rfl ?_
                            first | (exact ⟨rfl, hE⟩) | (exact (bneE hg105 (hr86.det1 hr28)).elim) | (exact absurd (hr86.det1 hr28) hp105) | (exact absurd (hr86.det1 hr28) (of_decide_eq_false hg105)) | (exact (bneE hg105 (hr86.det2 hr28)).elim) | (exact absurd (hr86.det2 hr28) hp105) | (exact absurd (hr86.det2 hr28) (of_decide_eq_false hg105)) | (exact (bneE hg105 (hr86.det3 hr28)).elim) | (exact absurd (hr86.det3 hr28) hp105) | (exact absurd (hr86.det3 hr28) (of_decide_eq_false hg105)) | (exact (bneE hg105 (hr37.det1 hr28)).elim) | (exact absurd (hr37.det1 hr28) hp105) | (exact absurd (hr37.det1 hr28) (of_decide_eq_false hg105)) | (exact (bneE hg105 (hr37.det2 hr28)).elim) | (exact absurd (hr37.det2 hr28) hp105) | (exact absurd (hr37.det2 hr28) (of_decide_eq_false hg105)) | (exact (bneE hg105 (hr37.det3 hr28)).elim) | (exact absurd (hr37.det3 hr28) hp105) | (exact absurd (hr37.det3 hr28) (of_decide_eq_false hg105)) | (exact (tfX hg105).elim) | (exact (decF hg105).elim) | (exfalso; omega)

end Go.Proofs.Ytgnlfhggebijcaa
