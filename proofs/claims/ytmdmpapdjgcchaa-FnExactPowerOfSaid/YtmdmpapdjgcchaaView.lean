/- Contracts of the classes of views, of the program and of the reference. -/
import Derived.Test.YtmdmpapdjgcchaaMetric
import Derived.Test.YtmdmpapdjgcchaaViews
namespace Go.Proofs.Ytmdmpapdjgcchaa
open Go Go.RowKit

theorem laidOutV : laidOutB Try.prog = true := by kernel_rfl
theorem vlaw : Maps.Keyed Try.prog 122 := Maps.Keyed.of_law (deep_law_gate laidOutV (of_decide_eq_true (by kernel_rfl)) (of_decide_eq_true (by kernel_rfl)) (by kernel_rfl) (by kernel_rfl))
theorem vgood {l : List Int} (hl : l.length = 14) (hr : ∀ x ∈ l, I64 x) : GoodK Try.prog 122 (lkey l) := goodK_arr (E := 3) (by kernel_rfl) (by kernel_rfl) (by kernel_rfl) (by kernel_rfl) (by kernel_rfl) hl hr
structure VOk (A : Net) : Prop where
  pos : 0 < A.ends.length ∧ A.ends.length ≤ 80
  ends : EndsOk A.ends
  deg : ∀ r ∈ A.ends, r.length ≤ 6
  port : ∀ r ∈ A.ends, ∀ e ∈ r, 0 ≤ e.2 ∧ e.2 ≤ 6
  inp : A.inputs.length = A.ends.length
  inr : ∀ x ∈ A.inputs, 0 ≤ x ∧ x ≤ 9
theorem NOk.vok {A : Net} (h : NOk A) : VOk A := by
  have hn := h.nodes
  have hi := h.inLen
  refine ⟨by omega, h.endsOk, fun r hr => ?_, fun r hr e he => ?_, by omega, fun x hx => allR_true.1 h.inputs x hx⟩
  · obtain ⟨v, hv, rfl⟩ := List.mem_iff_getElem.1 hr
    have := (h.rows v hv).1; omega
  · obtain ⟨v, hv, rfl⟩ := List.mem_iff_getElem.1 hr
    obtain ⟨i, hi, rfl⟩ := List.mem_iff_getElem.1 he
    obtain ⟨q1, q2, q3, q4⟩ := (h.endOk hv hi).port
    have := (h.rows _ q2).1
    omega
theorem VOk.degAt {A : Net} (h : VOk A) {v : Nat} (hv : v < A.ends.length) : A.ends[v].length ≤ 6 := h.deg _ (List.getElem_mem hv)
/-- The key of node v after k of its ports. -/
def kc (A : Net) (C : List Int) (v k : Nat) : List Int := kcells ((A.ends.getD v []).length : Int) (A.inputs.getD v 0) (((A.ends.getD v []).take k).map fun e => (e.2, C.getD e.1.toNat 0))
theorem kc_len {A : Net} (h : VOk A) {C : List Int} {v k : Nat} (hv : v < A.ends.length) : (kc A C v k).length = 14 := kcells_len (by have := h.degAt hv; rw [getD_eq hv]; simp; omega)
theorem kc_zero {A : Net} {C : List Int} {v : Nat} : kc A C v 0 = kcells ((A.ends.getD v []).length : Int) (A.inputs.getD v 0) [] := by simp [kc]
theorem kc_step {A : Net} (h : VOk A) {C : List Int} {v k m n : Nat} (hv : v < A.ends.length) (hk : k < A.ends[v].length) (hm : m = 2 + 2 * k) (hn : n = 3 + 2 * k) {h2 : (A.ends[v][k]).1.toNat < C.length} :
    ((kc A C v k).set m (A.ends[v][k]).2).set n (C[(A.ends[v][k]).1.toNat]) = kc A C v (k + 1) := by
  have hd := h.degAt hv
  unfold kc
  rw [getD_eq hv, kcells_step (by simp; omega) (by simp; omega) (by simp; omega)]
  rw [List.take_succ_eq_append_getElem hk, List.map_append, List.map_singleton, getD_eq h2]
def kcN (A : Net) (v : Nat) : List Int := kcells ((A.ends.getD v []).length : Int) (A.inputs.getD v 0) []
theorem kc_full {A : Net} {C : List Int} {v k : Nat} (hk : (A.ends.getD v []).length ≤ k) : kc A C v k = kcv (vkey A.ends A.inputs (some C) v) := by
  unfold kc kcv vkey; rw [List.take_of_length_le hk]
theorem kcN_eq {A : Net} {v : Nat} : kcN A v = kcv (vkey A.ends A.inputs none v) := rfl
def kcs (A : Net) (C : Option (List Int)) : List (List Int) := (vkeys A.ends A.inputs C).map kcv
theorem kcs_len (A : Net) (C : Option (List Int)) : (kcs A C).length = A.ends.length := by simp [kcs, vkeys_len]
theorem kcs_at {A : Net} {C : Option (List Int)} {v : Nat} (h : v < (kcs A C).length) : (kcs A C)[v] = kcv (vkey A.ends A.inputs C v) := by simp [kcs, vkeys_at]
theorem kcs_class (A : Net) (C : Option (List Int)) : classOf (kcs A C) = classOf (vkeys A.ends A.inputs C) := by
  refine classOf_map kcv fun x hx y hy e => ?_
  obtain ⟨i, _, rfl⟩ := List.mem_map.1 hx
  obtain ⟨j, _, rfl⟩ := List.mem_map.1 hy
  have hd : (vkey A.ends A.inputs C i).1 = (vkey A.ends A.inputs C j).1 := by
    have := congrArg (·[0]?) e
    simpa [kcv, kcells] using this
  have hl : (vkey A.ends A.inputs C i).2.2.length = (vkey A.ends A.inputs C j).2.2.length := by
    cases C with
    | none => rfl
    | some c => simp only [vkey, List.length_map] at hd ⊢; omega
  obtain ⟨e1, e2, e3⟩ := kcells_inj hl e
  exact Prod.ext e1 (Prod.ext e2 e3)
theorem kcv_good {A : Net} (h : VOk A) {C : Option (List Int)} (hC : ∀ c, C = some c → ∀ x ∈ c, 0 ≤ x ∧ x ≤ 1000) {v : Nat} (hv : v < A.ends.length) : GoodK Try.prog 122 (lkey (kcv (vkey A.ends A.inputs C v))) := by
  have hd := h.degAt hv
  have hin := h.inp
  have hi := h.inr _ (List.getElem_mem (show v < A.inputs.length by omega))
  have hps : ∀ p ∈ (vkey A.ends A.inputs C v).2.2, (0 ≤ p.1 ∧ p.1 ≤ 1000) ∧ (0 ≤ p.2 ∧ p.2 ≤ 1000) := by
    cases C with
    | none => intro p hp; simp [vkey] at hp
    | some c =>
      intro p hp
      simp only [vkey] at hp
      obtain ⟨e, he, rfl⟩ := List.mem_map.1 hp
      rw [getD_eq hv] at he
      have := h.port _ (List.getElem_mem hv) e he
      refine ⟨by omega, ?_⟩
      by_cases hl : e.1.toNat < c.length
      · simp only [getD_eq hl]; exact hC c rfl _ (List.getElem_mem hl)
      · simp [List.getD, List.getElem?_eq_none (Nat.le_of_not_lt hl)]
  have hpl : (vkey A.ends A.inputs C v).2.2.length ≤ 6 := by
    cases C with
    | none => simp [vkey]
    | some c => simp only [vkey, List.length_map, getD_eq hv]; exact hd
  refine vgood (kcells_len hpl) fun x hx => ?_
  simp only [kcv, kcells, List.mem_cons, List.mem_append, List.mem_flatMap, List.mem_replicate] at hx
  rcases hx with rfl | rfl | ⟨p, hp, hx⟩ | ⟨_, rfl⟩
  · simp only [vkey, getD_eq hv]; omega
  · simp only [vkey]; rw [getD_eq (by omega)]; omega
  · have := hps p hp
    simp at hx
    rcases hx with rfl | rfl <;> omega
  · omega
theorem fill_val {w : World} {b : Nat} {T : TypeId} {xs : List Int} {i : Nat} {y : Int} (h : Blk w b T ((fillI xs i).set (0 + ((i : Nat) : Int).toNat * 1) (VI y))) (hi : i < xs.length) (e : y = xs[i]) : Blk w b T (fillI xs (i + 1)) := fillI_store hi (e ▸ h)
theorem key0 {w : World} {b : Nat} {T : TypeId} {d i : Int} {cs : List Value} (h : Blk w b T (cs.take 0 ++ (VI d :: VI i :: List.replicate 12 (VI 0)) ++ cs.drop (0 + (VI d :: VI i :: List.replicate 12 (VI 0)).length))) (hl : cs.length = 14) : Blk w b T ((kcells d i []).map VI) := by
  rw [List.take_zero, List.nil_append, List.drop_of_length_le (by simp [hl]), List.append_nil] at h
  exact h
theorem mp_step {κ : Type} [DecidableEq κ] {P : Program} {K : TypeId} {ek : κ → Value} {em : Int → Value} {w : World} {b : Nat} {ks : List κ} {k : κ} {i : Nat} {n : Int} (h : Mp P K ek em w b (kvsOf (dds (ks.take i)) ++ [(k, n)])) (hi : i < ks.length) (hk : ks[i] = k) (hn : k ∉ (kvsOf (dds (ks.take i))).map Prod.fst) (hl : n = (kvsOf (dds (ks.take i))).length) : Mp P K ek em w b (kvsOf (dds (ks.take (i + 1)))) := by
  rw [kvsOf_keys] at hn
  rw [kvsOf_len] at hl
  rw [List.take_succ_eq_append_getElem hi, hk, dds_snoc, if_neg hn, kvsOf_snoc, ← hl]
  exact h
theorem mp_keep {κ : Type} [DecidableEq κ] {P : Program} {K : TypeId} {ek : κ → Value} {em : Int → Value} {w : World} {b : Nat} {ks : List κ} {k : κ} {i : Nat} (h : Mp P K ek em w b (kvsOf (dds (ks.take i)))) (hi : i < ks.length) (hk : ks[i] = k) (hs : (alook (kvsOf (dds (ks.take i))) k).isSome = true) : Mp P K ek em w b (kvsOf (dds (ks.take (i + 1)))) := by
  have hm : k ∈ dds (ks.take i) := by
    refine Classical.byContradiction fun hno => ?_
    rw [alook_kvs (dds_nodup _), if_neg hno] at hs; cases hs
  rw [List.take_succ_eq_append_getElem hi, hk, dds_snoc, if_pos hm]; exact h
theorem cls_new {κ : Type} [DecidableEq κ] {ks : List κ} {k : κ} {i : Nat} (hi : i < ks.length) (hk : ks[i] = k) (hn : k ∉ (kvsOf (dds (ks.take i))).map Prod.fst) {h2 : i < (classOf ks).length} : ((kvsOf (dds (ks.take i))).length : Int) = (classOf ks)[i] := by
  rw [kvsOf_keys] at hn
  rw [classOf_at hi, hk, if_neg hn, kvsOf_len]
theorem cls_old {κ : Type} [DecidableEq κ] {ks : List κ} {k : κ} {i : Nat} (hi : i < ks.length) (hk : ks[i] = k) (hs : (alook (kvsOf (dds (ks.take i))) k).isSome = true) {h2 : i < (classOf ks).length} : (alook (kvsOf (dds (ks.take i))) k).getD 0 = (classOf ks)[i] := by
  have hm : k ∈ dds (ks.take i) := by
    refine Classical.byContradiction fun hno => ?_
    rw [alook_kvs (dds_nodup _), if_neg hno] at hs; cases hs
  rw [classOf_at hi, hk, if_pos hm, alook_kvs (dds_nodup _), if_pos hm]; rfl
theorem kvs_size {κ : Type} [DecidableEq κ] (ks : List κ) (i : Nat) : (kvsOf (dds (ks.take i))).length ≤ i := by rw [kvsOf_len]; exact Nat.le_trans (dds_le _) (by simp; omega)

theorem fillI_zero_n {xs : List Int} {n : Nat} (h : xs.length = n) : List.replicate n (VI 0) = fillI xs 0 := by subst h; exact fillI_zero xs
theorem iset0 {w : World} {g j i n : Nat} {T : TypeId} {xs : List Int} {x : Int} {y : Value} (hj : j = i) (h : Blk w g T (((xs.map VI).set j (VI x)).set n y)) : Blk w g T (((xs.set i x).map VI).set n y) := by subst hj; rw [List.map_set]; exact h

set_option maxHeartbeats 4000000 in
set_option maxRecDepth 100000 in
theorem viewClasses_nil {lo hi : Nat} (h : NA) (A : Net) (w : World) (hA : IsNet lo hi w h A) (hhi : hi ≤ w.heap.size) (hn : totN A ≤ 1048576) (hv : VOk A) :
    Fn Try.prog 102 #[netV h A, .slice none 0 0] w (fun r w' => ∃ a' c', r = .slice a' A.ends.length c' ∧ Own w.heap.size w' 3 1 a' A.ends.length c' ((classOf (vkeys A.ends A.inputs none)).map VI) ∧ Ext w w') := by
  have hq1 := totL_len A.ends
  have hm1 : totL A.ends + A.ids.length + A.inputs.length ≤ 1048576 := hn
  have hpos := hv.pos
  have hks := kcs_len A none
  have hE := Ext.refl w
  refine Fn_of Try.func102 rfl rfl (by kernel_rfl) rfl ?_
  refine W_seq ?_
  refine W_region ?_
  refine WL_m rfl (ev_box rfl) ?_
  rintro _ w2 ⟨rfl, hN2⟩
  have hz2 := hN2.size
  replace hE := hE.trans hN2.ext
  replace hA := hA.ext hN2.ext
  have hB2 : Blk w2 _ _ [_, _, _] := hN2.blk
  refine WL_q rfl (ev_assign rfl) ?_
  refine WL_nil ?_
  refine thenE_n ?_
  refine W_seq ?_
  refine W_region ?_
  refine WL_m rfl (ev_makeMap (κ := List Int) (μ := Int) (K := 122) (ek := lkey) (em := VI)) ?_
  rintro _ w14 ⟨rfl, hE14, hz14, hM14⟩
  replace hE := hE.trans hE14
  replace hA := hA.ext hE14
  replace hB2 := hB2.ext hE14
  have hm14 := hM14.lt
  refine WL_q rfl (ev_assign rfl) ?_
  refine WL_nil ?_
  refine thenE_n ?_
  refine W_seq ?_
  refine W_region ?_
  refine WL_q rfl (ev_fieldAddr fo29_0 rfl) ?_
  refine WL_q rfl (ev_load one27 rfl (hB2.cell rfl)) ?_
  refine WL_q rfl (ev_len Try.underlying27 rfl) ?_
  refine WL_m rfl (ev_makeN Try.underlying23 el3 rfl rfl rfl (by omega) (by omega)) ?_
  rintro _ w18 ⟨rfl, hN18⟩
  have hz18 := hN18.size
  replace hE := hE.trans hN18.ext
  replace hA := hA.ext hN18.ext
  replace hB2 := hB2.ext hN18.ext
  replace hM14 := hM14.ext hN18.ext
  have hB18 := hN18.blk
  replace hB18 := hB18.to (fillI_zero_n (by rw [classOf_len, hks] : (classOf (kcs A none)).length = A.ends.length))
  refine WL_q rfl (ev_assign rfl) ?_
  refine WL_nil ?_
  refine thenE_n ?_
  refine W_seq ?_
  refine W_seq ?_
  refine W_region ?_
  refine WL_q rfl (ev_fieldAddr fo29_0 rfl) ?_
  refine WL_q rfl (ev_load one27 rfl (hB2.cell rfl)) ?_
  refine WL_q rfl (ev_len Try.underlying27 rfl) ?_
  refine WL_q rfl (ev_move rfl) ?_
  refine WL_nil ?_
  refine thenE_n ?_
  refine W_block ?_
  refine W_loopC (G := Nat) [(1, _), (2, _), (5, _), (6, _), (20, _), (21, _)] ((Subs.c rfl (Subs.c rfl (Subs.c rfl (Subs.c rfl (Subs.c rfl (Subs.c rfl Subs.n))))))) (fun i => [(22, VI (i : Int))]) (fun i w' => Lo (w2.heap.size) w18 w' ∧ i ≤ A.ends.length ∧ Blk w' w14.heap.size 3 (fillI (classOf (kcs A none)) i) ∧ Mp Try.prog 122 lkey VI w' w2.heap.size (kvsOf (dds ((kcs A none).take i)))) (fun i => A.ends.length - i) 0 ((Subs.c (lkI rfl (by omega)) Subs.n)) (⟨Lo.refl (by omega), ⟨by omega, hB18, hM14⟩⟩) ?_
  rintro i wL0 ⟨hRL0, hi', hBo, hMp⟩
  have hzL0 := hRL0.size
  replace hA := hA.lo hRL0 (by omega)
  replace hB2 := hB2.lo hRL0 (by omega)
  replace hE := hE.lo hRL0 (by omega)
  refine W_seq ?_
  refine W_region ?_
  refine WL_q rfl (ev_lss rfl rfl) ?_
  refine WL_nil ?_
  refine thenE_n ?_
  refine W_seq ?_
  refine W_cond rfl (fun hg23 => ?_) (fun hg23 => ?_)
  · have hp23 := of_decide_eq_true hg23
    refine W_skip ?_
    refine thenE_n ?_
    refine W_seq ?_
    refine W_block ?_
    refine W_seq ?_
    refine W_region ?_
    refine WL_q rfl (ev_move rfl) ?_
    have hlt : i < A.ends.length := by omega
    have hd6 := hv.degAt hlt
    have hin := hv.inp
    have hkz := kvs_size (kcs A none) i
    have hl25 : i < A.ends.length := by omega
    have ht25 := totL_le hl25
    obtain ⟨a25, c25, hc25, hr25⟩ := hA.ends.row hl25
    refine WL_q rfl (ev_indexAddr Try.underlying27 sz69 rfl rfl (hA.ends.isSome (by omega)) (by omega) (by omega)) ?_
    refine WL_q rfl (ev_load one69 rfl (hc25)) ?_
    refine WL_q rfl (ev_assign rfl) ?_
    refine WL_q rfl (ev_assign rfl) ?_
    refine WL_nil ?_
    refine thenE_n ?_
    refine W_seq ?_
    refine W_region ?_
    refine WL_q rfl (ev_move rfl) ?_
    refine WL_q rfl (ev_len Try.underlying69 rfl) ?_
    refine WL_q rfl (ev_fieldAddr fo29_2 rfl) ?_
    refine WL_q rfl (ev_load one23 rfl (hB2.cell rfl)) ?_
    refine WL_q rfl (ev_move rfl) ?_
    refine WL_q rfl (ev_indexAddr Try.underlying23 sz3 rfl rfl (hA.inputs.isSome (by omega)) (by omega) (by omega)) ?_
    refine WL_q rfl (ev_load one3 rfl (hA.inputs.cell (i := i) (by omega))) ?_
    refine WL_q rfl (ev_buildA2 (m := 12) Try.underlying122 sz3 zr122 rfl rfl rfl rfl) ?_
    refine WL_m rfl (ev_alloc zr122) ?_
    rintro _ w9 ⟨rfl, hN9⟩
    have hz9 := hN9.size
    replace hE := hE.trans hN9.ext
    replace hRL0 := hRL0.trans hN9.ext
    replace hA := hA.ext hN9.ext
    replace hB2 := hB2.ext hN9.ext
    replace hBo := hBo.ext hN9.ext
    replace hMp := hMp.ext hN9.ext
    replace hr25 := hr25.ext hN9.ext
    have hB9 := hN9.blk
    refine WL_s (ev_stores sz122 rfl rfl rfl (by intro u hu; simp at hu; rcases hu with rfl | rfl | hu <;> first | rfl | (rw [hu]; rfl)) hB9 (by exact Nat.le_refl 14)) ?_
    rintro _ w6_9 hS6_9
    have hz6_9 := hS6_9.size
    replace hE := hE.sto hS6_9 (by omega)
    replace hRL0 := hRL0.sto hS6_9 (by omega)
    replace hA := hA.sto hS6_9 (by omega)
    replace hB2 := hB2.sto hS6_9 (by omega)
    replace hBo := hBo.sto hS6_9 (by omega)
    replace hMp := hMp.sto hS6_9 (by omega)
    replace hr25 := hr25.sto hS6_9 (by omega)
    replace hB9 := hS6_9.blk
    replace hB9 := key0 hB9 rfl
    have hkey0 : kcells (A.ends[i].length : Int) A.inputs[i] [] = kcN A i := by unfold kcN; rw [getD_eq hlt, getD_eq (by omega)]
    rw [hkey0] at hB9
    refine WL_nil ?_
    refine thenE_n ?_
    refine W_seq ?_
    refine W_seq ?_
    refine W_region ?_
    refine WL_q rfl (ev_move rfl) ?_
    refine WL_q rfl (ev_len Try.underlying69 rfl) ?_
    refine WL_q rfl (ev_move rfl) ?_
    refine WL_nil ?_
    refine thenE_n ?_
    refine W_block ?_
    refine W_loopC (G := Nat) [(1, _), (2, _), (5, _), (6, _), (7, _), (9, _), (20, _), (21, _), (22, _), (35, _), (36, _)] ((Subs.c rfl (Subs.c rfl (Subs.c rfl (Subs.c rfl (Subs.c rfl (Subs.c rfl (Subs.c rfl (Subs.c rfl (Subs.c rfl (Subs.c rfl (Subs.c rfl Subs.n)))))))))))) (fun k => [(37, VI (k : Int))]) (fun k w' => KX (wL0.heap.size) w6_9 w' ∧ k ≤ A.ends[i].length ∧ Blk w' wL0.heap.size 122 ((kcN A i).map VI)) (fun k => A.ends[i].length - k) 0 ((Subs.c (lkI rfl (by omega)) Subs.n)) (⟨KX.refl _ _, ⟨by omega, hB9⟩⟩) ?_
    rintro k wL2 ⟨hRL2, hk', hB9⟩
    have hzL2 := hRL2.size
    replace hA := hA.kx hRL2 (by omega)
    replace hB2 := hB2.kx hRL2 (by omega)
    replace hBo := hBo.kx hRL2 (by omega)
    replace hMp := hMp.kx hRL2 (by omega)
    replace hr25 := hr25.kx hRL2 (by omega)
    replace hE := hE.kx hRL2 (by omega)
    replace hRL0 := hRL0.kx hRL2 (by omega)
    refine W_seq ?_
    refine W_region ?_
    refine WL_q rfl (ev_lss rfl rfl) ?_
    refine WL_nil ?_
    refine thenE_n ?_
    refine W_seq ?_
    refine W_cond rfl (fun hg38 => ?_) (fun hg38 => ?_)
    · have hp38 := of_decide_eq_true hg38
      refine W_skip ?_
      refine thenE_n ?_
      refine W_seq ?_
      refine W_block ?_
      refine W_seq ?_
      refine W_region ?_
      refine WL_q rfl (ev_move rfl) ?_
      have hlt2 : k < A.ends[i].length := by omega
      refine WL_q rfl (ev_indexAddr Try.underlying69 sz71 rfl rfl (hr25.isSome (by omega)) (by omega) (by omega)) ?_
      refine WL_q rfl (ev_loads st71 sz71 rfl (hr25.cells (i := k) (by omega)) rfl) ?_
      refine WL_m rfl (ev_alloc zr71) ?_
      rintro _ w11 ⟨rfl, hN11⟩
      have hz11 := hN11.size
      replace hE := hE.trans hN11.ext
      replace hRL0 := hRL0.trans hN11.ext
      replace hRL2 := hRL2.trans hN11.ext
      replace hA := hA.ext hN11.ext
      replace hB2 := hB2.ext hN11.ext
      replace hBo := hBo.ext hN11.ext
      replace hMp := hMp.ext hN11.ext
      replace hr25 := hr25.ext hN11.ext
      replace hB9 := hB9.ext hN11.ext
      have hB11 : Blk w11 _ _ [_, _] := hN11.blk
      refine WL_q rfl (ev_assign rfl) ?_
      refine WL_s (ev_stores sz71 rfl rfl rfl (by simp [Value.oneCell']) hB11 (by simp)) ?_
      rintro _ w9_5 hS9_5
      have hz9_5 := hS9_5.size
      replace hE := hE.sto hS9_5 (by omega)
      replace hRL0 := hRL0.sto hS9_5 (by omega)
      replace hRL2 := hRL2.sto hS9_5 (by omega)
      replace hA := hA.sto hS9_5 (by omega)
      replace hB2 := hB2.sto hS9_5 (by omega)
      replace hBo := hBo.sto hS9_5 (by omega)
      replace hMp := hMp.sto hS9_5 (by omega)
      replace hr25 := hr25.sto hS9_5 (by omega)
      replace hB9 := hB9.sto hS9_5 (by omega)
      replace hB11 : Blk w9_5 _ _ [_, _] := hS9_5.blk
      refine WL_nil ?_
      refine thenE_n ?_
      refine W_seq ?_
      refine W_region ?_
      refine WL_q rfl (ev_move rfl) ?_
      refine WL_q rfl (ev_neq_nil Try.underlying23 rfl rfl) ?_
      refine WL_nil ?_
      refine thenE_n ?_
      refine W_cond rfl (fun hg43 => ?_) (fun hg43 => ?_)
      · exact absurd hg43 (by decide)
      · refine W_skip ?_
        refine blockE_n ?_
        refine thenE_n ?_
        refine W_region ?_
        refine WL_q rfl (ev_add rfl rfl (by omega)) ?_
        refine WL_q rfl (ev_move rfl) ?_
        refine WL_nil ?_
        refine thenE_n ?_
        exact ⟨k + 1, (Subs.c rfl (Subs.c rfl (Subs.c rfl (Subs.c rfl (Subs.c rfl (Subs.c rfl (Subs.c rfl (Subs.c rfl (Subs.c rfl (Subs.c rfl (Subs.c rfl Subs.n))))))))))), (Subs.c (lkI rfl (by omega)) Subs.n), ⟨hRL2, ⟨by omega, hB9⟩⟩, by first | omega | (dsimp only; omega)⟩
    · have hp38 := of_decide_eq_false hg38
      refine W_exit ?_
      refine thenE_x ?_
      refine thenE_x ?_
      refine blockE_hit ?_
      refine thenE_n ?_
      refine W_seq ?_
      refine W_region ?_
      refine WL_q rfl (ev_move rfl) ?_
      refine WL_q rfl (ev_loadsA Try.underlying122 sz122 rfl (cellsB hB9) (by rw [List.length_map]; exact kcells_len (by simp))) ?_
      refine WL_q rfl (ev_lookup2I vlaw lkey_inj Try.underlying120 zr3 rfl rfl hMp (kcv_good hv (C := none) (fun c hc => by cases hc) hlt)) ?_
      refine WL_q rfl (ev_move rfl) ?_
      refine WL_q rfl (ev_extract rfl rfl) ?_
      refine WL_q rfl (ev_extract rfl rfl) ?_
      refine WL_q rfl (ev_assign rfl) ?_
      refine WL_q rfl (ev_assign rfl) ?_
      refine WL_nil ?_
      refine thenE_n ?_
      refine W_seq ?_
      refine W_seq ?_
      refine W_region ?_
      refine WL_q rfl (ev_move rfl) ?_
      refine WL_q rfl (ev_not rfl) ?_
      refine WL_nil ?_
      refine thenE_n ?_
      refine W_cond rfl (fun hg67 => ?_) (fun hg67 => ?_)
      · have hg65 := not_true hg67
        refine W_seq ?_
        refine W_region ?_
        refine WL_q rfl (ev_move rfl) ?_
        refine WL_q rfl (ev_len_map Try.underlying120 rfl hMp) ?_
        refine WL_q rfl (ev_assign rfl) ?_
        refine WL_nil ?_
        refine thenE_n ?_
        refine W_region ?_
        refine WL_q rfl (ev_move rfl) ?_
        refine WL_q rfl (ev_loadsA Try.underlying122 sz122 rfl (cellsB hB9) (by rw [List.length_map]; exact kcells_len (by simp))) ?_
        refine WL_q rfl (ev_move rfl) ?_
        refine WL_s (ev_mapNew vlaw lkey_inj Try.underlying120 rfl rfl rfl hMp (kcv_good hv (C := none) (fun c hc => by cases hc) hlt) (alook_not hg65)) ?_
        rintro _ w16_3 ⟨hK16_3, hz16_3, hM16_3⟩
        replace hE := hE.kx hK16_3 (by omega)
        replace hRL0 := hRL0.kx hK16_3 (by omega)
        replace hA := hA.kx hK16_3 (by omega)
        replace hB2 := hB2.kx hK16_3 (by omega)
        replace hBo := hBo.kx hK16_3 (by omega)
        replace hr25 := hr25.kx hK16_3 (by omega)
        replace hB9 := hB9.kx hK16_3 (by omega)
        replace hMp := hM16_3
        refine WL_nil ?_
        refine thenE_n ?_
        refine W_region ?_
        refine WL_q rfl (ev_move rfl) ?_
        refine WL_q rfl (ev_move rfl) ?_
        refine WL_q rfl (ev_move rfl) ?_
        have hkf : (kcs A none)[i]'(by rw [hks]; exact hlt) = (kcN A i) := by rw [kcs_at, kcN_eq]
        refine WL_q rfl (ev_indexAddr Try.underlying23 sz3 rfl rfl rfl (by omega) (by omega)) ?_
        refine WL_s (ev_store sz3 rfl rfl rfl hBo (by rw [fillI_length (by rw [classOf_len, hks]; omega), classOf_len, hks]; omega)) ?_
        rintro _ w17_4 hS17_4
        have hz17_4 := hS17_4.size
        replace hE := hE.sto hS17_4 (by omega)
        replace hRL0 := hRL0.sto hS17_4 (by omega)
        replace hA := hA.sto hS17_4 (by omega)
        replace hB2 := hB2.sto hS17_4 (by omega)
        replace hMp := hMp.sto hS17_4 (by omega)
        replace hr25 := hr25.sto hS17_4 (by omega)
        replace hB9 := hB9.sto hS17_4 (by omega)
        replace hBo := hS17_4.blk
        replace hBo := fill_val hBo (by rw [classOf_len, hks]; exact hlt) (by first | exact cls_new (by omega) hkf (alook_not hg65) | exact cls_old (by omega) hkf hg65)
        refine WL_nil ?_
        refine blockE_n ?_
        refine thenE_n ?_
        refine W_region ?_
        refine WL_q rfl (ev_add rfl rfl (by omega)) ?_
        refine WL_q rfl (ev_move rfl) ?_
        refine WL_nil ?_
        refine thenE_n ?_
        exact ⟨i + 1, (Subs.c rfl (Subs.c rfl (Subs.c rfl (Subs.c rfl (Subs.c rfl (Subs.c rfl Subs.n)))))), (Subs.c (lkI rfl (by omega)) Subs.n), ⟨hRL0, ⟨by omega, hBo, mp_step hMp (by omega) hkf (alook_not hg65) rfl⟩⟩, by first | omega | (dsimp only; omega)⟩
      · have hg65 := not_false hg67
        refine W_skip ?_
        refine thenE_n ?_
        refine W_region ?_
        refine WL_q rfl (ev_move rfl) ?_
        refine WL_q rfl (ev_move rfl) ?_
        refine WL_q rfl (ev_move rfl) ?_
        have hkf : (kcs A none)[i]'(by rw [hks]; exact hlt) = (kcN A i) := by rw [kcs_at, kcN_eq]
        refine WL_q rfl (ev_indexAddr Try.underlying23 sz3 rfl rfl rfl (by omega) (by omega)) ?_
        refine WL_s (ev_store sz3 rfl rfl rfl hBo (by rw [fillI_length (by rw [classOf_len, hks]; omega), classOf_len, hks]; omega)) ?_
        rintro _ w17_4 hS17_4
        have hz17_4 := hS17_4.size
        replace hE := hE.sto hS17_4 (by omega)
        replace hRL0 := hRL0.sto hS17_4 (by omega)
        replace hA := hA.sto hS17_4 (by omega)
        replace hB2 := hB2.sto hS17_4 (by omega)
        replace hMp := hMp.sto hS17_4 (by omega)
        replace hr25 := hr25.sto hS17_4 (by omega)
        replace hB9 := hB9.sto hS17_4 (by omega)
        replace hBo := hS17_4.blk
        replace hBo := fill_val hBo (by rw [classOf_len, hks]; exact hlt) (by first | exact cls_new (by omega) hkf (alook_not hg65) | exact cls_old (by omega) hkf hg65)
        refine WL_nil ?_
        refine blockE_n ?_
        refine thenE_n ?_
        refine W_region ?_
        refine WL_q rfl (ev_add rfl rfl (by omega)) ?_
        refine WL_q rfl (ev_move rfl) ?_
        refine WL_nil ?_
        refine thenE_n ?_
        exact ⟨i + 1, (Subs.c rfl (Subs.c rfl (Subs.c rfl (Subs.c rfl (Subs.c rfl (Subs.c rfl Subs.n)))))), (Subs.c (lkI rfl (by omega)) Subs.n), ⟨hRL0, ⟨by omega, hBo, mp_keep hMp (by omega) hkf hg65⟩⟩, by first | omega | (dsimp only; omega)⟩
  · have hp23 := of_decide_eq_false hg23
    refine W_exit ?_
    refine thenE_x ?_
    refine thenE_x ?_
    refine blockE_hit ?_
    refine thenE_n ?_
    refine W_seq ?_
    refine W_region ?_
    refine WL_q rfl (ev_move rfl) ?_
    refine WL_q rfl (ev_assign rfl) ?_
    refine WL_nil ?_
    refine thenE_n ?_
    refine W_ret ?_
    refine ret1 rfl rfl ?_
    have hi9 : i = A.ends.length := by omega
    subst hi9
    exact ⟨_, _, rfl, by rw [← kcs_class]; exact own_of_blk (hBo.to (fillI_done (by rw [classOf_len, hks]))) (by omega) (by rw [List.length_map, classOf_len, hks]; omega) (by omega), hE⟩

set_option maxHeartbeats 4000000 in
set_option maxRecDepth 100000 in
theorem viewClasses_some {lo hi lo2 hi2 : Nat} (h : NA) (A : Net) (a : Option Addr) (c : Nat) (C : List Int) (w : World) (hA : IsNet lo hi w h A) (hhi : hi ≤ w.heap.size) (hn : totN A ≤ 1048576) (hv : VOk A) (hC : Ints lo2 hi2 w a c C) (hhi2 : hi2 ≤ w.heap.size) (hCl : C.length = A.ends.length) (hCr : ∀ x ∈ C, 0 ≤ x ∧ x ≤ 1000) :
    Fn Try.prog 102 #[netV h A, .slice a A.ends.length c] w (fun r w' => ∃ a' c', r = .slice a' A.ends.length c' ∧ Own w.heap.size w' 3 1 a' A.ends.length c' ((classOf (vkeys A.ends A.inputs (some C))).map VI) ∧ Ext w w') := by
  have hq1 := totL_len A.ends
  have hm1 : totL A.ends + A.ids.length + A.inputs.length ≤ 1048576 := hn
  have hpos := hv.pos
  have hks := kcs_len A (some C)
  have hE := Ext.refl w
  refine Fn_of Try.func102 rfl rfl (by kernel_rfl) rfl ?_
  refine W_seq ?_
  refine W_region ?_
  refine WL_m rfl (ev_box rfl) ?_
  rintro _ w2 ⟨rfl, hN2⟩
  have hz2 := hN2.size
  replace hE := hE.trans hN2.ext
  replace hA := hA.ext hN2.ext
  replace hC := hC.ext hN2.ext
  have hB2 : Blk w2 _ _ [_, _, _] := hN2.blk
  refine WL_q rfl (ev_assign rfl) ?_
  refine WL_nil ?_
  refine thenE_n ?_
  refine W_seq ?_
  refine W_region ?_
  refine WL_m rfl (ev_makeMap (κ := List Int) (μ := Int) (K := 122) (ek := lkey) (em := VI)) ?_
  rintro _ w14 ⟨rfl, hE14, hz14, hM14⟩
  replace hE := hE.trans hE14
  replace hA := hA.ext hE14
  replace hC := hC.ext hE14
  replace hB2 := hB2.ext hE14
  have hm14 := hM14.lt
  refine WL_q rfl (ev_assign rfl) ?_
  refine WL_nil ?_
  refine thenE_n ?_
  refine W_seq ?_
  refine W_region ?_
  refine WL_q rfl (ev_fieldAddr fo29_0 rfl) ?_
  refine WL_q rfl (ev_load one27 rfl (hB2.cell rfl)) ?_
  refine WL_q rfl (ev_len Try.underlying27 rfl) ?_
  refine WL_m rfl (ev_makeN Try.underlying23 el3 rfl rfl rfl (by omega) (by omega)) ?_
  rintro _ w18 ⟨rfl, hN18⟩
  have hz18 := hN18.size
  replace hE := hE.trans hN18.ext
  replace hA := hA.ext hN18.ext
  replace hC := hC.ext hN18.ext
  replace hB2 := hB2.ext hN18.ext
  replace hM14 := hM14.ext hN18.ext
  have hB18 := hN18.blk
  replace hB18 := hB18.to (fillI_zero_n (by rw [classOf_len, hks] : (classOf (kcs A (some C))).length = A.ends.length))
  refine WL_q rfl (ev_assign rfl) ?_
  refine WL_nil ?_
  refine thenE_n ?_
  refine W_seq ?_
  refine W_seq ?_
  refine W_region ?_
  refine WL_q rfl (ev_fieldAddr fo29_0 rfl) ?_
  refine WL_q rfl (ev_load one27 rfl (hB2.cell rfl)) ?_
  refine WL_q rfl (ev_len Try.underlying27 rfl) ?_
  refine WL_q rfl (ev_move rfl) ?_
  refine WL_nil ?_
  refine thenE_n ?_
  refine W_block ?_
  refine W_loopC (G := Nat) [(1, _), (2, _), (5, _), (6, _), (20, _), (21, _)] ((Subs.c rfl (Subs.c rfl (Subs.c rfl (Subs.c rfl (Subs.c rfl (Subs.c rfl Subs.n))))))) (fun i => [(22, VI (i : Int))]) (fun i w' => Lo (w2.heap.size) w18 w' ∧ i ≤ A.ends.length ∧ Blk w' w14.heap.size 3 (fillI (classOf (kcs A (some C))) i) ∧ Mp Try.prog 122 lkey VI w' w2.heap.size (kvsOf (dds ((kcs A (some C)).take i)))) (fun i => A.ends.length - i) 0 ((Subs.c (lkI rfl (by omega)) Subs.n)) (⟨Lo.refl (by omega), ⟨by omega, hB18, hM14⟩⟩) ?_
  rintro i wL0 ⟨hRL0, hi', hBo, hMp⟩
  have hzL0 := hRL0.size
  replace hA := hA.lo hRL0 (by omega)
  replace hC := hC.lo hRL0 (by omega)
  replace hB2 := hB2.lo hRL0 (by omega)
  replace hE := hE.lo hRL0 (by omega)
  refine W_seq ?_
  refine W_region ?_
  refine WL_q rfl (ev_lss rfl rfl) ?_
  refine WL_nil ?_
  refine thenE_n ?_
  refine W_seq ?_
  refine W_cond rfl (fun hg23 => ?_) (fun hg23 => ?_)
  · have hp23 := of_decide_eq_true hg23
    refine W_skip ?_
    refine thenE_n ?_
    refine W_seq ?_
    refine W_block ?_
    refine W_seq ?_
    refine W_region ?_
    refine WL_q rfl (ev_move rfl) ?_
    have hlt : i < A.ends.length := by omega
    have hd6 := hv.degAt hlt
    have hin := hv.inp
    have hkz := kvs_size (kcs A (some C)) i
    have hl25 : i < A.ends.length := by omega
    have ht25 := totL_le hl25
    obtain ⟨a25, c25, hc25, hr25⟩ := hA.ends.row hl25
    refine WL_q rfl (ev_indexAddr Try.underlying27 sz69 rfl rfl (hA.ends.isSome (by omega)) (by omega) (by omega)) ?_
    refine WL_q rfl (ev_load one69 rfl (hc25)) ?_
    refine WL_q rfl (ev_assign rfl) ?_
    refine WL_q rfl (ev_assign rfl) ?_
    refine WL_nil ?_
    refine thenE_n ?_
    refine W_seq ?_
    refine W_region ?_
    refine WL_q rfl (ev_move rfl) ?_
    refine WL_q rfl (ev_len Try.underlying69 rfl) ?_
    refine WL_q rfl (ev_fieldAddr fo29_2 rfl) ?_
    refine WL_q rfl (ev_load one23 rfl (hB2.cell rfl)) ?_
    refine WL_q rfl (ev_move rfl) ?_
    refine WL_q rfl (ev_indexAddr Try.underlying23 sz3 rfl rfl (hA.inputs.isSome (by omega)) (by omega) (by omega)) ?_
    refine WL_q rfl (ev_load one3 rfl (hA.inputs.cell (i := i) (by omega))) ?_
    refine WL_q rfl (ev_buildA2 (m := 12) Try.underlying122 sz3 zr122 rfl rfl rfl rfl) ?_
    refine WL_m rfl (ev_alloc zr122) ?_
    rintro _ w9 ⟨rfl, hN9⟩
    have hz9 := hN9.size
    replace hE := hE.trans hN9.ext
    replace hRL0 := hRL0.trans hN9.ext
    replace hA := hA.ext hN9.ext
    replace hC := hC.ext hN9.ext
    replace hB2 := hB2.ext hN9.ext
    replace hBo := hBo.ext hN9.ext
    replace hMp := hMp.ext hN9.ext
    replace hr25 := hr25.ext hN9.ext
    have hB9 := hN9.blk
    refine WL_s (ev_stores sz122 rfl rfl rfl (by intro u hu; simp at hu; rcases hu with rfl | rfl | hu <;> first | rfl | (rw [hu]; rfl)) hB9 (by exact Nat.le_refl 14)) ?_
    rintro _ w6_9 hS6_9
    have hz6_9 := hS6_9.size
    replace hE := hE.sto hS6_9 (by omega)
    replace hRL0 := hRL0.sto hS6_9 (by omega)
    replace hA := hA.sto hS6_9 (by omega)
    replace hC := hC.sto hS6_9 (by omega)
    replace hB2 := hB2.sto hS6_9 (by omega)
    replace hBo := hBo.sto hS6_9 (by omega)
    replace hMp := hMp.sto hS6_9 (by omega)
    replace hr25 := hr25.sto hS6_9 (by omega)
    replace hB9 := hS6_9.blk
    replace hB9 := key0 hB9 rfl
    have hkey0 : kcells (A.ends[i].length : Int) A.inputs[i] [] = kcN A i := by unfold kcN; rw [getD_eq hlt, getD_eq (by omega)]
    rw [hkey0] at hB9
    rw [show kcN A i = kc A C i 0 from kc_zero.symm] at hB9
    refine WL_nil ?_
    refine thenE_n ?_
    refine W_seq ?_
    refine W_seq ?_
    refine W_region ?_
    refine WL_q rfl (ev_move rfl) ?_
    refine WL_q rfl (ev_len Try.underlying69 rfl) ?_
    refine WL_q rfl (ev_move rfl) ?_
    refine WL_nil ?_
    refine thenE_n ?_
    refine W_block ?_
    refine W_loopC (G := Nat) [(1, _), (2, _), (5, _), (6, _), (7, _), (9, _), (20, _), (21, _), (22, _), (35, _), (36, _)] ((Subs.c rfl (Subs.c rfl (Subs.c rfl (Subs.c rfl (Subs.c rfl (Subs.c rfl (Subs.c rfl (Subs.c rfl (Subs.c rfl (Subs.c rfl (Subs.c rfl Subs.n)))))))))))) (fun k => [(37, VI (k : Int))]) (fun k w' => KX (wL0.heap.size) w6_9 w' ∧ k ≤ A.ends[i].length ∧ Blk w' wL0.heap.size 122 ((kc A C i k).map VI)) (fun k => A.ends[i].length - k) 0 ((Subs.c (lkI rfl (by omega)) Subs.n)) (⟨KX.refl _ _, ⟨by omega, by rw [kc_zero]; exact hB9⟩⟩) ?_
    rintro k wL2 ⟨hRL2, hk', hB9⟩
    have hzL2 := hRL2.size
    replace hA := hA.kx hRL2 (by omega)
    replace hC := hC.kx hRL2 (by omega)
    replace hB2 := hB2.kx hRL2 (by omega)
    replace hBo := hBo.kx hRL2 (by omega)
    replace hMp := hMp.kx hRL2 (by omega)
    replace hr25 := hr25.kx hRL2 (by omega)
    replace hE := hE.kx hRL2 (by omega)
    replace hRL0 := hRL0.kx hRL2 (by omega)
    have hkl := kc_len hv (C := C) (k := k) hlt
    refine W_seq ?_
    refine W_region ?_
    refine WL_q rfl (ev_lss rfl rfl) ?_
    refine WL_nil ?_
    refine thenE_n ?_
    refine W_seq ?_
    refine W_cond rfl (fun hg38 => ?_) (fun hg38 => ?_)
    · have hp38 := of_decide_eq_true hg38
      refine W_skip ?_
      refine thenE_n ?_
      refine W_seq ?_
      refine W_block ?_
      refine W_seq ?_
      refine W_region ?_
      refine WL_q rfl (ev_move rfl) ?_
      have hlt2 : k < A.ends[i].length := by omega
      obtain ⟨he1, he2⟩ := hv.ends.at hlt hlt2
      refine WL_q rfl (ev_indexAddr Try.underlying69 sz71 rfl rfl (hr25.isSome (by omega)) (by omega) (by omega)) ?_
      refine WL_q rfl (ev_loads st71 sz71 rfl (hr25.cells (i := k) (by omega)) rfl) ?_
      refine WL_m rfl (ev_alloc zr71) ?_
      rintro _ w11 ⟨rfl, hN11⟩
      have hz11 := hN11.size
      replace hE := hE.trans hN11.ext
      replace hRL0 := hRL0.trans hN11.ext
      replace hRL2 := hRL2.trans hN11.ext
      replace hA := hA.ext hN11.ext
      replace hC := hC.ext hN11.ext
      replace hB2 := hB2.ext hN11.ext
      replace hBo := hBo.ext hN11.ext
      replace hMp := hMp.ext hN11.ext
      replace hr25 := hr25.ext hN11.ext
      replace hB9 := hB9.ext hN11.ext
      have hB11 : Blk w11 _ _ [_, _] := hN11.blk
      refine WL_q rfl (ev_assign rfl) ?_
      refine WL_s (ev_stores sz71 rfl rfl rfl (by simp [Value.oneCell']) hB11 (by simp)) ?_
      rintro _ w9_5 hS9_5
      have hz9_5 := hS9_5.size
      replace hE := hE.sto hS9_5 (by omega)
      replace hRL0 := hRL0.sto hS9_5 (by omega)
      replace hRL2 := hRL2.sto hS9_5 (by omega)
      replace hA := hA.sto hS9_5 (by omega)
      replace hC := hC.sto hS9_5 (by omega)
      replace hB2 := hB2.sto hS9_5 (by omega)
      replace hBo := hBo.sto hS9_5 (by omega)
      replace hMp := hMp.sto hS9_5 (by omega)
      replace hr25 := hr25.sto hS9_5 (by omega)
      replace hB9 := hB9.sto hS9_5 (by omega)
      replace hB11 : Blk w9_5 _ _ [_, _] := hS9_5.blk
      refine WL_nil ?_
      refine thenE_n ?_
      refine W_seq ?_
      refine W_region ?_
      refine WL_q rfl (ev_move rfl) ?_
      refine WL_q rfl (ev_neq_nil Try.underlying23 rfl rfl) ?_
      refine WL_nil ?_
      refine thenE_n ?_
      refine W_cond rfl (fun hg43 => ?_) (fun hg43 => ?_)
      · refine W_drawK (wL0.heap.size) (fun w' => True) [(0, true), (1, true), (2, true), (3, true), (4, true), (5, true), (6, true), (7, true), (8, true), (9, true), (10, true), (11, true), (12, true), (13, true), (14, false), (15, true), (16, false)] mixed (by kernel_rfl) rfl (by kernel_rfl) (fun _ _ => trivial) ?_
        intro wd11 hEd11 hzd11
        replace hE := hE.trans hEd11
        replace hRL0 := hRL0.trans hEd11
        replace hRL2 := hRL2.trans hEd11
        replace hA := hA.ext hEd11
        replace hC := hC.ext hEd11
        replace hB2 := hB2.ext hEd11
        replace hBo := hBo.ext hEd11
        replace hMp := hMp.ext hEd11
        replace hr25 := hr25.ext hEd11
        replace hB9 := hB9.ext hEd11
        replace hB11 := hB11.ext hEd11
        have hDd11 := KX.refl (wL0.heap.size) wd11
        refine PW_q rfl rfl (fun wq hq => ev_move rfl) ?_
        refine PW_q rfl rfl (fun wq hq => ev_mul rfl rfl (by omega)) ?_
        refine PW_q rfl rfl (fun wq hq => ev_add rfl rfl (by omega)) ?_
        refine PW_q rfl rfl (fun wq hq => ev_move rfl) ?_
        refine PW_q rfl rfl (fun wq hq => ev_mul rfl rfl (by omega)) ?_
        refine PW_q rfl rfl (fun wq hq => ev_add rfl rfl (by omega)) ?_
        refine PW_q rfl rfl (fun wq hq => ev_fieldAddr fo71_1 rfl) ?_
        refine PW_q rfl rfl (fun wq hq => ev_load one3 rfl ((hB11.kx hq.1 (by omega)).cell rfl)) ?_
        refine PW_q rfl rfl (fun wq hq => ev_move rfl) ?_
        refine PW_q rfl rfl (fun wq hq => ev_fieldAddr fo71_0 rfl) ?_
        refine PW_q rfl rfl (fun wq hq => ev_load one3 rfl ((hB11.kx hq.1 (by omega)).cell rfl)) ?_
        refine PW_q rfl rfl (fun wq hq => ev_indexAddr Try.underlying23 sz3 rfl rfl (hC.isSome (by omega)) he1 (by omega)) ?_
        refine PW_q rfl rfl (fun wq hq => ev_load one3 rfl ((hC.kx hq.1 (by omega)).cellJ (i := A.ends[i][k].1.toNat) (j := A.ends[i][k].1.toNat) (by omega) (by omega))) ?_
        refine PW_q rfl rfl (fun wq hq => ev_indexAddrA Try.underlying122 sz3 rfl rfl (by omega) (by omega)) ?_
        refine PW_s rfl (ev_store sz3 rfl rfl rfl hB9 (by rw [List.length_map, hkl]; omega)) ?_
        rintro _ w11_14 hS11_14
        have hz11_14 := hS11_14.size
        replace hE := hE.sto hS11_14 (by omega)
        replace hRL0 := hRL0.sto hS11_14 (by omega)
        replace hRL2 := hRL2.sto hS11_14 (by omega)
        replace hDd11 := hDd11.sto hS11_14 (by omega)
        replace hB9 := hS11_14.blk
        refine ⟨⟨hDd11, trivial⟩, ?_⟩
        refine PW_q rfl rfl (fun wq hq => ev_indexAddrA Try.underlying122 sz3 rfl rfl (by omega) (by omega)) ?_
        have hA_16 := hA.kx hDd11 (by omega)
        have hC_16 := hC.kx hDd11 (by omega)
        have hB2_16 := hB2.kx hDd11 (by omega)
        have hBo_16 := hBo.kx hDd11 (by omega)
        have hMp_16 := hMp.kx hDd11 (by omega)
        have hr25_16 := hr25.kx hDd11 (by omega)
        have hB11_16 := hB11.kx hDd11 (by omega)
        refine PW_s rfl (ev_store sz3 rfl rfl rfl hB9 (by rw [List.length_set, List.length_map, hkl]; omega)) ?_
        rintro _ w11_16 hS11_16
        have hz11_16 := hS11_16.size
        replace hE := hE.sto hS11_16 (by omega)
        replace hRL0 := hRL0.sto hS11_16 (by omega)
        replace hRL2 := hRL2.sto hS11_16 (by omega)
        replace hDd11 := hDd11.sto hS11_16 (by omega)
        replace hB9 := hS11_16.blk
        replace hB9 := blk_to (iset (i := 3 + 2 * k) (by omega) (iset0 (i := 2 + 2 * k) (by omega) hB9)) (kc_step hv hlt hlt2 rfl rfl)
        refine ⟨⟨hDd11, trivial⟩, ?_⟩
        replace hA := hA.kx hDd11 (by omega)
        replace hC := hC.kx hDd11 (by omega)
        replace hB2 := hB2.kx hDd11 (by omega)
        replace hBo := hBo.kx hDd11 (by omega)
        replace hMp := hMp.kx hDd11 (by omega)
        replace hr25 := hr25.kx hDd11 (by omega)
        replace hB11 := hB11.kx hDd11 (by omega)
        refine PW_nil ?_
        refine blockE_n ?_
        refine thenE_n ?_
        refine W_region ?_
        refine WL_q rfl (ev_add rfl rfl (by omega)) ?_
        refine WL_q rfl (ev_move rfl) ?_
        refine WL_nil ?_
        refine thenE_n ?_
        exact ⟨k + 1, (Subs.c rfl (Subs.c rfl (Subs.c rfl (Subs.c rfl (Subs.c rfl (Subs.c rfl (Subs.c rfl (Subs.c rfl (Subs.c rfl (Subs.c rfl (Subs.c rfl Subs.n))))))))))), (Subs.c (lkI rfl (by omega)) Subs.n), ⟨hRL2, ⟨by omega, hB9⟩⟩, by first | omega | (dsimp only; omega)⟩
      · rw [hC.isSome (by omega)] at hg43; cases hg43
    · have hp38 := of_decide_eq_false hg38
      refine W_exit ?_
      refine thenE_x ?_
      refine thenE_x ?_
      refine blockE_hit ?_
      refine thenE_n ?_
      refine W_seq ?_
      refine W_region ?_
      refine WL_q rfl (ev_move rfl) ?_
      refine WL_q rfl (ev_loadsA Try.underlying122 sz122 rfl (cellsB hB9) (by rw [List.length_map]; exact kc_len hv hlt)) ?_
      refine WL_q rfl (ev_lookup2I vlaw lkey_inj Try.underlying120 zr3 rfl rfl hMp (by rw [kc_full (by rw [getD_eq hlt]; omega)]; exact kcv_good hv (fun c hc => by cases hc; exact hCr) hlt)) ?_
      refine WL_q rfl (ev_move rfl) ?_
      refine WL_q rfl (ev_extract rfl rfl) ?_
      refine WL_q rfl (ev_extract rfl rfl) ?_
      refine WL_q rfl (ev_assign rfl) ?_
      refine WL_q rfl (ev_assign rfl) ?_
      refine WL_nil ?_
      refine thenE_n ?_
      refine W_seq ?_
      refine W_seq ?_
      refine W_region ?_
      refine WL_q rfl (ev_move rfl) ?_
      refine WL_q rfl (ev_not rfl) ?_
      refine WL_nil ?_
      refine thenE_n ?_
      refine W_cond rfl (fun hg67 => ?_) (fun hg67 => ?_)
      · have hg65 := not_true hg67
        refine W_seq ?_
        refine W_region ?_
        refine WL_q rfl (ev_move rfl) ?_
        refine WL_q rfl (ev_len_map Try.underlying120 rfl hMp) ?_
        refine WL_q rfl (ev_assign rfl) ?_
        refine WL_nil ?_
        refine thenE_n ?_
        refine W_region ?_
        refine WL_q rfl (ev_move rfl) ?_
        refine WL_q rfl (ev_loadsA Try.underlying122 sz122 rfl (cellsB hB9) (by rw [List.length_map]; exact kc_len hv hlt)) ?_
        refine WL_q rfl (ev_move rfl) ?_
        refine WL_s (ev_mapNew vlaw lkey_inj Try.underlying120 rfl rfl rfl hMp (by rw [kc_full (by rw [getD_eq hlt]; omega)]; exact kcv_good hv (fun c hc => by cases hc; exact hCr) hlt) (alook_not hg65)) ?_
        rintro _ w16_3 ⟨hK16_3, hz16_3, hM16_3⟩
        replace hE := hE.kx hK16_3 (by omega)
        replace hRL0 := hRL0.kx hK16_3 (by omega)
        replace hA := hA.kx hK16_3 (by omega)
        replace hC := hC.kx hK16_3 (by omega)
        replace hB2 := hB2.kx hK16_3 (by omega)
        replace hBo := hBo.kx hK16_3 (by omega)
        replace hr25 := hr25.kx hK16_3 (by omega)
        replace hB9 := hB9.kx hK16_3 (by omega)
        replace hMp := hM16_3
        refine WL_nil ?_
        refine thenE_n ?_
        refine W_region ?_
        refine WL_q rfl (ev_move rfl) ?_
        refine WL_q rfl (ev_move rfl) ?_
        refine WL_q rfl (ev_move rfl) ?_
        have hkf : (kcs A (some C))[i]'(by rw [hks]; exact hlt) = (kc A C i k) := by rw [kcs_at, kc_full (by rw [getD_eq hlt]; omega)]
        refine WL_q rfl (ev_indexAddr Try.underlying23 sz3 rfl rfl rfl (by omega) (by omega)) ?_
        refine WL_s (ev_store sz3 rfl rfl rfl hBo (by rw [fillI_length (by rw [classOf_len, hks]; omega), classOf_len, hks]; omega)) ?_
        rintro _ w17_4 hS17_4
        have hz17_4 := hS17_4.size
        replace hE := hE.sto hS17_4 (by omega)
        replace hRL0 := hRL0.sto hS17_4 (by omega)
        replace hA := hA.sto hS17_4 (by omega)
        replace hC := hC.sto hS17_4 (by omega)
        replace hB2 := hB2.sto hS17_4 (by omega)
        replace hMp := hMp.sto hS17_4 (by omega)
        replace hr25 := hr25.sto hS17_4 (by omega)
        replace hB9 := hB9.sto hS17_4 (by omega)
        replace hBo := hS17_4.blk
        replace hBo := fill_val hBo (by rw [classOf_len, hks]; exact hlt) (by first | exact cls_new (by omega) hkf (alook_not hg65) | exact cls_old (by omega) hkf hg65)
        refine WL_nil ?_
        refine blockE_n ?_
        refine thenE_n ?_
        refine W_region ?_
        refine WL_q rfl (ev_add rfl rfl (by omega)) ?_
        refine WL_q rfl (ev_move rfl) ?_
        refine WL_nil ?_
        refine thenE_n ?_
        exact ⟨i + 1, (Subs.c rfl (Subs.c rfl (Subs.c rfl (Subs.c rfl (Subs.c rfl (Subs.c rfl Subs.n)))))), (Subs.c (lkI rfl (by omega)) Subs.n), ⟨hRL0, ⟨by omega, hBo, mp_step hMp (by omega) hkf (alook_not hg65) rfl⟩⟩, by first | omega | (dsimp only; omega)⟩
      · have hg65 := not_false hg67
        refine W_skip ?_
        refine thenE_n ?_
        refine W_region ?_
        refine WL_q rfl (ev_move rfl) ?_
        refine WL_q rfl (ev_move rfl) ?_
        refine WL_q rfl (ev_move rfl) ?_
        have hkf : (kcs A (some C))[i]'(by rw [hks]; exact hlt) = (kc A C i k) := by rw [kcs_at, kc_full (by rw [getD_eq hlt]; omega)]
        refine WL_q rfl (ev_indexAddr Try.underlying23 sz3 rfl rfl rfl (by omega) (by omega)) ?_
        refine WL_s (ev_store sz3 rfl rfl rfl hBo (by rw [fillI_length (by rw [classOf_len, hks]; omega), classOf_len, hks]; omega)) ?_
        rintro _ w17_4 hS17_4
        have hz17_4 := hS17_4.size
        replace hE := hE.sto hS17_4 (by omega)
        replace hRL0 := hRL0.sto hS17_4 (by omega)
        replace hA := hA.sto hS17_4 (by omega)
        replace hC := hC.sto hS17_4 (by omega)
        replace hB2 := hB2.sto hS17_4 (by omega)
        replace hMp := hMp.sto hS17_4 (by omega)
        replace hr25 := hr25.sto hS17_4 (by omega)
        replace hB9 := hB9.sto hS17_4 (by omega)
        replace hBo := hS17_4.blk
        replace hBo := fill_val hBo (by rw [classOf_len, hks]; exact hlt) (by first | exact cls_new (by omega) hkf (alook_not hg65) | exact cls_old (by omega) hkf hg65)
        refine WL_nil ?_
        refine blockE_n ?_
        refine thenE_n ?_
        refine W_region ?_
        refine WL_q rfl (ev_add rfl rfl (by omega)) ?_
        refine WL_q rfl (ev_move rfl) ?_
        refine WL_nil ?_
        refine thenE_n ?_
        exact ⟨i + 1, (Subs.c rfl (Subs.c rfl (Subs.c rfl (Subs.c rfl (Subs.c rfl (Subs.c rfl Subs.n)))))), (Subs.c (lkI rfl (by omega)) Subs.n), ⟨hRL0, ⟨by omega, hBo, mp_keep hMp (by omega) hkf hg65⟩⟩, by first | omega | (dsimp only; omega)⟩
  · have hp23 := of_decide_eq_false hg23
    refine W_exit ?_
    refine thenE_x ?_
    refine thenE_x ?_
    refine blockE_hit ?_
    refine thenE_n ?_
    refine W_seq ?_
    refine W_region ?_
    refine WL_q rfl (ev_move rfl) ?_
    refine WL_q rfl (ev_assign rfl) ?_
    refine WL_nil ?_
    refine thenE_n ?_
    refine W_ret ?_
    refine ret1 rfl rfl ?_
    have hi9 : i = A.ends.length := by omega
    subst hi9
    exact ⟨_, _, rfl, by rw [← kcs_class]; exact own_of_blk (hBo.to (fillI_done (by rw [classOf_len, hks]))) (by omega) (by rw [List.length_map, classOf_len, hks]; omega) (by omega), hE⟩

theorem alike_iff {A : Net} (h : VOk A) {C : List Int} {x y : Nat} (hx : x < A.ends.length) (hy : y < A.ends.length) {h1 : x < A.inputs.length} {h2 : y < A.inputs.length} : vkey A.ends A.inputs (some C) x = vkey A.ends A.inputs (some C) y ↔
    A.ends[x].length = A.ends[y].length ∧ A.inputs[x] = A.inputs[y] ∧ ∀ j (q1 : j < A.ends[x].length) (q2 : j < A.ends[y].length), A.ends[x][j].2 = A.ends[y][j].2 ∧ C.getD A.ends[x][j].1.toNat 0 = C.getD A.ends[y][j].1.toNat 0 := by
  rw [vkey_some, getD_eq hx, getD_eq hy, getD_eq h1, getD_eq h2]
  refine and_congr_right fun e1 => and_congr_right fun _ => ?_
  constructor
  · intro e j q1 q2
    have : (A.ends[x].map fun e => (e.2, C.getD e.1.toNat 0))[j]'(by simpa using q1) = (A.ends[y].map fun e => (e.2, C.getD e.1.toNat 0))[j]'(by simpa using q2) := by simp only [e]
    simpa using this
  · intro e
    apply List.ext_getElem (by simpa using e1)
    intro j q1 q2
    simp only [List.length_map] at q1 q2
    simp only [List.getElem_map]
    exact Prod.ext (e j q1 q2).1 (e j q1 q2).2
theorem alike_nil {A : Net} {x y : Nat} (hx : x < A.ends.length) (hy : y < A.ends.length) {h1 : x < A.inputs.length} {h2 : y < A.inputs.length} : vkey A.ends A.inputs none x = vkey A.ends A.inputs none y ↔ A.ends[x].length = A.ends[y].length ∧ A.inputs[x] = A.inputs[y] := by
  simp only [vkey, getD_eq hx, getD_eq hy, getD_eq h1, getD_eq h2, Prod.mk.injEq, and_true]
  exact ⟨fun ⟨a, b⟩ => ⟨by omega, b⟩, fun ⟨a, b⟩ => ⟨by omega, b⟩⟩
theorem fill_cell {w : World} {b i m j : Nat} {T : TypeId} {xs : List Int} (h : Blk w b T (fillI xs i)) (hm : m < i) (hi : i ≤ xs.length) (hj : j = m) : w.cell? ⟨b, j, none⟩ = some (VI (xs[m]'(by omega))) := by
  subst hj
  refine h.cell ?_
  have e : fillI xs i = (xs.take i).flatMap intF ++ (List.replicate (xs.length - i) [VI 0]).flatten := rfl
  rw [e, intF_flat, List.getElem?_append_left (by simp; omega)]
  simp [hm]
theorem cls_eq {κ : Type} [DecidableEq κ] {ks : List κ} {m i : Nat} (hm : m < ks.length) (hi : i < ks.length) (e : ks[m] = ks[i]) {h1 : m < (classOf ks).length} {h2 : i < (classOf ks).length} : (classOf ks)[m] = (classOf ks)[i] := (classOf_same hm hi).2 e
theorem cls_fresh {κ : Type} [DecidableEq κ] {ks : List κ} {i : Nat} (hi : i < ks.length) (hn : ks[i] ∉ ks.take i) {h2 : i < (classOf ks).length} : ((dds (ks.take i)).length : Int) = (classOf ks)[i] := by rw [classOf_at hi, if_neg (fun h => hn (mem_dds.1 h))]
theorem dds_fresh {κ : Type} [DecidableEq κ] {ks : List κ} {i : Nat} (hi : i < ks.length) (hn : ks[i] ∉ ks.take i) : (dds (ks.take (i + 1))).length = (dds (ks.take i)).length + 1 := by
  rw [List.take_succ_eq_append_getElem hi, dds_snoc, if_neg (fun h => hn (mem_dds.1 h))]; simp
theorem dds_known {κ : Type} [DecidableEq κ] {ks : List κ} {m i : Nat} (hm : m < i) (hi : i < ks.length) (e : ks[m] = ks[i]) : (dds (ks.take (i + 1))).length = (dds (ks.take i)).length := by
  rw [List.take_succ_eq_append_getElem hi, dds_snoc, if_pos]
  exact mem_dds.2 (e ▸ List.mem_take_iff_getElem.2 ⟨m, by omega, rfl⟩)
theorem not_take {κ : Type} {ks : List κ} {i : Nat} (hi : i < ks.length) (h : ∀ j (_h : j < i) (h2 : j < ks.length), ks[j] ≠ ks[i]) : ks[i] ∉ ks.take i := by
  intro hm
  obtain ⟨j, hj, e⟩ := List.mem_take_iff_getElem.1 hm
  exact h j (by omega) (by omega) e
theorem dds_size {κ : Type} [DecidableEq κ] (ks : List κ) (i : Nat) : (dds (ks.take i)).length ≤ i := Nat.le_trans (dds_le _) (by simp; omega)

set_option maxHeartbeats 4000000 in
set_option maxRecDepth 100000 in
theorem viAlike_nil {lo hi : Nat} (h : NA) (A : Net) (x y : Nat) (w : World) (hA : IsNet lo hi w h A) (hhi : hi ≤ w.heap.size) (hn : totN A ≤ 1048576) (hv : VOk A) (hx : x < A.ends.length) (hy : y < A.ends.length) :
    Fn Try.prog 122 #[netV h A, .slice none 0 0, VI (x : Int), VI (y : Int)] w (fun r w' => r = VB (decide (vkey A.ends A.inputs none x = vkey A.ends A.inputs none y)) ∧ Ext w w') := by
  have hq1 := totL_len A.ends
  have hm1 : totL A.ends + A.ids.length + A.inputs.length ≤ 1048576 := hn
  have hin := hv.inp
  have hpos := hv.pos
  have hE := Ext.refl w
  refine Fn_of Try.func122 rfl rfl (by kernel_rfl) rfl ?_
  refine W_seq ?_
  refine W_region ?_
  refine WL_m rfl (ev_box rfl) ?_
  rintro _ w4 ⟨rfl, hN4⟩
  have hz4 := hN4.size
  replace hE := hE.trans hN4.ext
  replace hA := hA.ext hN4.ext
  have hB4 : Blk w4 _ _ [_, _, _] := hN4.blk
  refine WL_q rfl (ev_assign rfl) ?_
  refine WL_nil ?_
  refine thenE_n ?_
  refine W_seq ?_
  refine W_seq ?_
  refine W_drawE [(0, true), (1, true), (2, true), (3, true), (4, true), (5, true), (6, true), (7, true), (8, true), (9, true), (10, true), (11, true), (12, true), (13, true), (14, true), (15, true), (16, true), (17, true), (18, true), (19, true), (20, true), (21, true), (22, true), (23, true), (24, true), (25, true)] mixed (by kernel_rfl) rfl (by kernel_rfl) ?_
  intro wd1 hEd1 hzd1
  replace hE := hE.trans hEd1
  replace hA := hA.ext hEd1
  replace hB4 := hB4.ext hEd1
  have hDd1 := Ext.refl wd1
  refine PW_q rfl rfl (fun wq hq => ev_fieldAddr fo29_0 rfl) ?_
  refine PW_q rfl rfl (fun wq hq => ev_load one27 rfl (hq.cell (hB4.cell rfl))) ?_
  refine PW_q rfl rfl (fun wq hq => ev_move rfl) ?_
  have hl15 : x < A.ends.length := by omega
  have ht15 := totL_le hl15
  obtain ⟨a15, c15, hc15, hr15⟩ := hA.ends.row hl15
  refine PW_q rfl rfl (fun wq hq => ev_indexAddr Try.underlying27 sz69 rfl rfl (hA.ends.isSome (by omega)) (by omega) (by omega)) ?_
  refine PW_q rfl rfl (fun wq hq => ev_load one69 rfl (hq.cell (hc15))) ?_
  refine PW_q rfl rfl (fun wq hq => ev_len Try.underlying69 rfl) ?_
  refine PW_q rfl rfl (fun wq hq => ev_fieldAddr fo29_0 rfl) ?_
  refine PW_q rfl rfl (fun wq hq => ev_load one27 rfl (hq.cell (hB4.cell rfl))) ?_
  refine PW_q rfl rfl (fun wq hq => ev_move rfl) ?_
  have hl21 : y < A.ends.length := by omega
  have ht21 := totL_le hl21
  obtain ⟨a21, c21, hc21, hr21⟩ := hA.ends.row hl21
  refine PW_q rfl rfl (fun wq hq => ev_indexAddr Try.underlying27 sz69 rfl rfl (hA.ends.isSome (by omega)) (by omega) (by omega)) ?_
  refine PW_q rfl rfl (fun wq hq => ev_load one69 rfl (hq.cell (hc21))) ?_
  refine PW_q rfl rfl (fun wq hq => ev_len Try.underlying69 rfl) ?_
  refine PW_q rfl rfl (fun wq hq => ev_neq rfl rfl) ?_
  refine PW_q rfl rfl (fun wq hq => ev_move rfl) ?_
  refine PW_splitv (t := 25) rfl (fun hg24 => ?_) (fun hg24 => ?_)
  · have hp24 := of_decide_eq_true hg24
    refine PW_no rfl rfl rfl hg24 rfl ?_
    refine PW_no rfl rfl rfl hg24 rfl ?_
    refine PW_no rfl rfl rfl hg24 rfl ?_
    refine PW_no rfl rfl rfl hg24 rfl ?_
    refine PW_no rfl rfl rfl hg24 rfl ?_
    refine PW_no rfl rfl rfl hg24 rfl ?_
    refine PW_no rfl rfl rfl hg24 rfl ?_
    refine PW_no rfl rfl rfl hg24 rfl ?_
    refine PW_no rfl rfl rfl hg24 rfl ?_
    refine PW_no rfl rfl rfl hg24 rfl ?_
    refine PW_no rfl rfl rfl hg24 rfl ?_
    refine PW_q rfl rfl (fun wq hq => ev_pick_t rfl hg24 rfl) ?_
    refine PW_nil ?_
    refine thenE_n ?_
    refine W_cond_t rfl ?_
    refine W_seq ?_
    refine W_region ?_
    refine WL_q rfl (ev_assign rfl) ?_
    refine WL_nil ?_
    refine thenE_n ?_
    refine W_ret ?_
    refine thenE_r ?_
    refine ret1 rfl rfl ?_
    first | (exact ⟨vb (bf fun e => hp24 (by have := ((alike_nil hx hy (h1 := by omega) (h2 := by omega)).1 e).1; omega)), hE⟩) | (exact ⟨vb (bf fun e => hp36 ((alike_nil hx hy (h1 := by omega) (h2 := by omega)).1 e).2), hE⟩) | (exact ⟨vb (bt ((alike_nil hx hy (h1 := by omega) (h2 := by omega)).2 ⟨by omega, by omega⟩)), hE⟩)
  · have hp24 := of_decide_eq_false hg24
    refine PW_qg rfl rfl rfl hg24 rfl (fun wq hq => ev_fieldAddr fo29_2 rfl) ?_
    refine PW_qg rfl rfl rfl hg24 rfl (fun wq hq => ev_load one23 rfl (hq.cell (hB4.cell rfl))) ?_
    refine PW_qg rfl rfl rfl hg24 rfl (fun wq hq => ev_move rfl) ?_
    refine PW_qg rfl rfl rfl hg24 rfl (fun wq hq => ev_indexAddr Try.underlying23 sz3 rfl rfl (hA.inputs.isSome (by omega)) (by omega) (by omega)) ?_
    have hc30 := hA.inputs.cell (i := x) (by omega)
    refine PW_qg rfl rfl rfl hg24 rfl (fun wq hq => ev_load one3 rfl (hq.cell (hc30))) ?_
    refine PW_qg rfl rfl rfl hg24 rfl (fun wq hq => ev_fieldAddr fo29_2 rfl) ?_
    refine PW_qg rfl rfl rfl hg24 rfl (fun wq hq => ev_load one23 rfl (hq.cell (hB4.cell rfl))) ?_
    refine PW_qg rfl rfl rfl hg24 rfl (fun wq hq => ev_move rfl) ?_
    refine PW_qg rfl rfl rfl hg24 rfl (fun wq hq => ev_indexAddr Try.underlying23 sz3 rfl rfl (hA.inputs.isSome (by omega)) (by omega) (by omega)) ?_
    have hc35 := hA.inputs.cell (i := y) (by omega)
    refine PW_qg rfl rfl rfl hg24 rfl (fun wq hq => ev_load one3 rfl (hq.cell (hc35))) ?_
    refine PW_qg rfl rfl rfl hg24 rfl (fun wq hq => ev_neq rfl rfl) ?_
    refine PW_q rfl rfl (fun wq hq => ev_pick_f rfl hg24 rfl) ?_
    refine PW_nil ?_
    refine thenE_n ?_
    refine W_cond rfl (fun hg36 => ?_) (fun hg36 => ?_)
    · have hp36 := of_decide_eq_true hg36
      refine W_seq ?_
      refine W_region ?_
      refine WL_q rfl (ev_assign rfl) ?_
      refine WL_nil ?_
      refine thenE_n ?_
      refine W_ret ?_
      refine thenE_r ?_
      refine ret1 rfl rfl ?_
      first | (exact ⟨vb (bf fun e => hp24 (by have := ((alike_nil hx hy (h1 := by omega) (h2 := by omega)).1 e).1; omega)), hE⟩) | (exact ⟨vb (bf fun e => hp36 ((alike_nil hx hy (h1 := by omega) (h2 := by omega)).1 e).2), hE⟩) | (exact ⟨vb (bt ((alike_nil hx hy (h1 := by omega) (h2 := by omega)).2 ⟨by omega, by omega⟩)), hE⟩)
    · have hp36 := of_decide_eq_false hg36
      refine W_skip ?_
      refine thenE_n ?_
      refine W_seq ?_
      refine W_seq ?_
      refine W_region ?_
      refine WL_q rfl (ev_fieldAddr fo29_0 rfl) ?_
      refine WL_q rfl (ev_load one27 rfl (hB4.cell rfl)) ?_
      refine WL_q rfl (ev_move rfl) ?_
      have hl41 : x < A.ends.length := by omega
      have ht41 := totL_le hl41
      obtain ⟨a41, c41, hc41, hr41⟩ := hA.ends.row hl41
      refine WL_q rfl (ev_indexAddr Try.underlying27 sz69 rfl rfl (hA.ends.isSome (by omega)) (by omega) (by omega)) ?_
      refine WL_q rfl (ev_load one69 rfl (hc41)) ?_
      refine WL_q rfl (ev_len Try.underlying69 rfl) ?_
      refine WL_q rfl (ev_move rfl) ?_
      refine WL_nil ?_
      refine thenE_n ?_
      refine W_block ?_
      refine W_loopC (G := Nat) [(1, _), (3, _), (4, _), (42, _), (43, _)] ((Subs.c rfl (Subs.c rfl (Subs.c rfl (Subs.c rfl (Subs.c rfl Subs.n)))))) (fun k => [(44, VI (k : Int))]) (fun k w' => Ext wd1 w' ∧ k ≤ A.ends[x].length) (fun k => A.ends[x].length - k) 0 ((Subs.c (lkI rfl (by omega)) Subs.n)) (⟨Ext.refl _, by omega⟩) ?_
      rintro k wL0 ⟨hRL0, hk'⟩
      have hzL0 := hRL0.size
      replace hE := hE.trans hRL0
      replace hA := hA.ext hRL0
      replace hB4 := hB4.ext hRL0
      replace hr15 := hr15.ext hRL0
      replace hr21 := hr21.ext hRL0
      replace hr41 := hr41.ext hRL0
      refine W_seq ?_
      refine W_region ?_
      refine WL_q rfl (ev_lss rfl rfl) ?_
      refine WL_nil ?_
      refine thenE_n ?_
      refine W_seq ?_
      refine W_cond rfl (fun hg45 => ?_) (fun hg45 => ?_)
      · have hp45 := of_decide_eq_true hg45
        refine W_skip ?_
        refine thenE_n ?_
        refine W_seq ?_
        refine W_block ?_
        refine W_seq ?_
        refine W_region ?_
        refine WL_q rfl (ev_move rfl) ?_
        have hlt2 : k < A.ends[x].length := by omega
        have hlt3 : k < A.ends[y].length := by omega
        obtain ⟨he1, he2⟩ := hv.ends.at hx hlt2
        obtain ⟨hf1, hf2⟩ := hv.ends.at hy hlt3
        refine WL_q rfl (ev_indexAddr Try.underlying69 sz71 rfl rfl (hr41.isSome (by omega)) (by omega) (by omega)) ?_
        refine WL_q rfl (ev_loads st71 sz71 rfl (hr41.cells (i := k) (by omega)) rfl) ?_
        refine WL_m rfl (ev_alloc zr71) ?_
        rintro _ w10 ⟨rfl, hN10⟩
        have hz10 := hN10.size
        replace hE := hE.trans hN10.ext
        replace hRL0 := hRL0.trans hN10.ext
        replace hA := hA.ext hN10.ext
        replace hB4 := hB4.ext hN10.ext
        replace hr15 := hr15.ext hN10.ext
        replace hr21 := hr21.ext hN10.ext
        replace hr41 := hr41.ext hN10.ext
        have hB10 : Blk w10 _ _ [_, _] := hN10.blk
        refine WL_q rfl (ev_assign rfl) ?_
        refine WL_s (ev_stores sz71 rfl rfl rfl (by simp [Value.oneCell']) hB10 (by simp)) ?_
        rintro _ w5_5 hS5_5
        have hz5_5 := hS5_5.size
        replace hE := hE.sto hS5_5 (by omega)
        replace hRL0 := hRL0.sto hS5_5 (by omega)
        replace hA := hA.sto hS5_5 (by omega)
        replace hB4 := hB4.sto hS5_5 (by omega)
        replace hr15 := hr15.sto hS5_5 (by omega)
        replace hr21 := hr21.sto hS5_5 (by omega)
        replace hr41 := hr41.sto hS5_5 (by omega)
        replace hB10 : Blk w5_5 _ _ [_, _] := hS5_5.blk
        refine WL_nil ?_
        refine thenE_n ?_
        refine W_seq ?_
        refine W_region ?_
        refine WL_q rfl (ev_fieldAddr fo29_0 rfl) ?_
        refine WL_q rfl (ev_load one27 rfl (hB4.cell rfl)) ?_
        refine WL_q rfl (ev_move rfl) ?_
        have hl52 : y < A.ends.length := by omega
        have ht52 := totL_le hl52
        obtain ⟨a52, c52, hc52, hr52⟩ := hA.ends.row hl52
        refine WL_q rfl (ev_indexAddr Try.underlying27 sz69 rfl rfl (hA.ends.isSome (by omega)) (by omega) (by omega)) ?_
        refine WL_q rfl (ev_load one69 rfl (hc52)) ?_
        refine WL_q rfl (ev_move rfl) ?_
        refine WL_q rfl (ev_indexAddr Try.underlying69 sz71 rfl rfl (hr52.isSome (by omega)) (by omega) (by omega)) ?_
        refine WL_q rfl (ev_loads st71 sz71 rfl (hr52.cells (i := k) (by omega)) rfl) ?_
        refine WL_m rfl (ev_alloc zr71) ?_
        rintro _ w11 ⟨rfl, hN11⟩
        have hz11 := hN11.size
        replace hE := hE.trans hN11.ext
        replace hRL0 := hRL0.trans hN11.ext
        replace hA := hA.ext hN11.ext
        replace hB4 := hB4.ext hN11.ext
        replace hr15 := hr15.ext hN11.ext
        replace hr21 := hr21.ext hN11.ext
        replace hr41 := hr41.ext hN11.ext
        replace hB10 := hB10.ext hN11.ext
        replace hr52 := hr52.ext hN11.ext
        have hB11 : Blk w11 _ _ [_, _] := hN11.blk
        refine WL_s (ev_stores sz71 rfl rfl rfl (by simp [Value.oneCell']) hB11 (by simp)) ?_
        rintro _ w6_9 hS6_9
        have hz6_9 := hS6_9.size
        replace hE := hE.sto hS6_9 (by omega)
        replace hRL0 := hRL0.sto hS6_9 (by omega)
        replace hA := hA.sto hS6_9 (by omega)
        replace hB4 := hB4.sto hS6_9 (by omega)
        replace hr15 := hr15.sto hS6_9 (by omega)
        replace hr21 := hr21.sto hS6_9 (by omega)
        replace hr41 := hr41.sto hS6_9 (by omega)
        replace hB10 := hB10.sto hS6_9 (by omega)
        replace hr52 := hr52.sto hS6_9 (by omega)
        replace hB11 : Blk w6_9 _ _ [_, _] := hS6_9.blk
        refine WL_nil ?_
        refine thenE_n ?_
        refine W_seq ?_
        refine W_drawE [(0, true), (1, true), (2, true), (3, true), (4, true), (5, true), (6, true), (7, true), (8, true), (9, true), (10, true), (11, true), (12, true), (13, true), (14, true), (15, true), (16, true), (17, true), (18, true), (19, true), (20, true), (21, true), (22, true)] mixed (by kernel_rfl) rfl (by kernel_rfl) ?_
        intro wd7 hEd7 hzd7
        replace hE := hE.trans hEd7
        replace hRL0 := hRL0.trans hEd7
        replace hA := hA.ext hEd7
        replace hB4 := hB4.ext hEd7
        replace hr15 := hr15.ext hEd7
        replace hr21 := hr21.ext hEd7
        replace hr41 := hr41.ext hEd7
        replace hB10 := hB10.ext hEd7
        replace hr52 := hr52.ext hEd7
        replace hB11 := hB11.ext hEd7
        have hDd7 := Ext.refl wd7
        refine PW_q rfl rfl (fun wq hq => ev_move rfl) ?_
        refine PW_q rfl rfl (fun wq hq => ev_len Try.underlying23 rfl) ?_
        refine PW_q rfl rfl (fun wq hq => ev_gtr rfl rfl) ?_
        refine PW_q rfl rfl (fun wq hq => ev_move rfl) ?_
        refine PW_splitv (t := 60) rfl (fun hg59 => ?_) (fun hg59 => ?_)
        · have hp59 := of_decide_eq_true hg59
          omega
        · have hp59 := of_decide_eq_false hg59
          refine PW_no rfl rfl rfl hg59 rfl ?_
          refine PW_no rfl rfl rfl hg59 rfl ?_
          refine PW_no rfl rfl rfl hg59 rfl ?_
          refine PW_no rfl rfl rfl hg59 rfl ?_
          refine PW_no rfl rfl rfl hg59 rfl ?_
          refine PW_no rfl rfl rfl hg59 rfl ?_
          refine PW_nou rfl rfl rfl rfl ?_
          refine PW_nou rfl rfl rfl rfl ?_
          refine PW_nou rfl rfl rfl rfl ?_
          refine PW_nou rfl rfl rfl rfl ?_
          refine PW_nou rfl rfl rfl rfl ?_
          refine PW_nou rfl rfl rfl rfl ?_
          refine PW_nou rfl rfl rfl rfl ?_
          refine PW_nou rfl rfl rfl rfl ?_
          refine PW_nou rfl rfl rfl rfl ?_
          refine PW_nou rfl rfl rfl rfl ?_
          refine PW_nou rfl rfl rfl rfl ?_
          refine PW_no rfl rfl rfl hg59 rfl ?_
          refine PW_q rfl rfl (fun wq hq => ev_pick_f rfl hg59 rfl) ?_
          refine PW_nil ?_
          refine thenE_n ?_
          refine W_cond_f rfl ?_
          refine W_skip ?_
          refine blockE_n ?_
          refine thenE_n ?_
          refine W_region ?_
          refine WL_q rfl (ev_add rfl rfl (by omega)) ?_
          refine WL_q rfl (ev_move rfl) ?_
          refine WL_nil ?_
          refine thenE_n ?_
          exact ⟨k + 1, (Subs.c rfl (Subs.c rfl (Subs.c rfl (Subs.c rfl (Subs.c rfl Subs.n))))), (Subs.c (lkI rfl (by omega)) Subs.n), ⟨hRL0, by omega⟩, by first | omega | (dsimp only; omega)⟩
      · have hp45 := of_decide_eq_false hg45
        refine W_exit ?_
        refine thenE_x ?_
        refine thenE_x ?_
        refine blockE_hit ?_
        refine thenE_n ?_
        refine W_seq ?_
        refine W_region ?_
        refine WL_q rfl (ev_assign rfl) ?_
        refine WL_nil ?_
        refine thenE_n ?_
        refine W_ret ?_
        refine ret1 rfl rfl ?_
        first | (exact ⟨vb (bf fun e => hp24 (by have := ((alike_nil hx hy (h1 := by omega) (h2 := by omega)).1 e).1; omega)), hE⟩) | (exact ⟨vb (bf fun e => hp36 ((alike_nil hx hy (h1 := by omega) (h2 := by omega)).1 e).2), hE⟩) | (exact ⟨vb (bt ((alike_nil hx hy (h1 := by omega) (h2 := by omega)).2 ⟨by omega, by omega⟩)), hE⟩)

set_option maxHeartbeats 4000000 in
set_option maxRecDepth 100000 in
theorem viAlike_some {lo hi lo2 hi2 : Nat} (h : NA) (A : Net) (a : Option Addr) (c : Nat) (C : List Int) (x y : Nat) (w : World) (hA : IsNet lo hi w h A) (hhi : hi ≤ w.heap.size) (hn : totN A ≤ 1048576) (hv : VOk A) (hx : x < A.ends.length) (hy : y < A.ends.length) (hC : Ints lo2 hi2 w a c C) (hhi2 : hi2 ≤ w.heap.size) (hCl : C.length = A.ends.length) :
    Fn Try.prog 122 #[netV h A, .slice a A.ends.length c, VI (x : Int), VI (y : Int)] w (fun r w' => r = VB (decide (vkey A.ends A.inputs (some C) x = vkey A.ends A.inputs (some C) y)) ∧ Ext w w') := by
  have hq1 := totL_len A.ends
  have hm1 : totL A.ends + A.ids.length + A.inputs.length ≤ 1048576 := hn
  have hin := hv.inp
  have hpos := hv.pos
  have hE := Ext.refl w
  refine Fn_of Try.func122 rfl rfl (by kernel_rfl) rfl ?_
  refine W_seq ?_
  refine W_region ?_
  refine WL_m rfl (ev_box rfl) ?_
  rintro _ w4 ⟨rfl, hN4⟩
  have hz4 := hN4.size
  replace hE := hE.trans hN4.ext
  replace hA := hA.ext hN4.ext
  replace hC := hC.ext hN4.ext
  have hB4 : Blk w4 _ _ [_, _, _] := hN4.blk
  refine WL_q rfl (ev_assign rfl) ?_
  refine WL_nil ?_
  refine thenE_n ?_
  refine W_seq ?_
  refine W_seq ?_
  refine W_drawE [(0, true), (1, true), (2, true), (3, true), (4, true), (5, true), (6, true), (7, true), (8, true), (9, true), (10, true), (11, true), (12, true), (13, true), (14, true), (15, true), (16, true), (17, true), (18, true), (19, true), (20, true), (21, true), (22, true), (23, true), (24, true), (25, true)] mixed (by kernel_rfl) rfl (by kernel_rfl) ?_
  intro wd1 hEd1 hzd1
  replace hE := hE.trans hEd1
  replace hA := hA.ext hEd1
  replace hC := hC.ext hEd1
  replace hB4 := hB4.ext hEd1
  have hDd1 := Ext.refl wd1
  refine PW_q rfl rfl (fun wq hq => ev_fieldAddr fo29_0 rfl) ?_
  refine PW_q rfl rfl (fun wq hq => ev_load one27 rfl (hq.cell (hB4.cell rfl))) ?_
  refine PW_q rfl rfl (fun wq hq => ev_move rfl) ?_
  have hl15 : x < A.ends.length := by omega
  have ht15 := totL_le hl15
  obtain ⟨a15, c15, hc15, hr15⟩ := hA.ends.row hl15
  refine PW_q rfl rfl (fun wq hq => ev_indexAddr Try.underlying27 sz69 rfl rfl (hA.ends.isSome (by omega)) (by omega) (by omega)) ?_
  refine PW_q rfl rfl (fun wq hq => ev_load one69 rfl (hq.cell (hc15))) ?_
  refine PW_q rfl rfl (fun wq hq => ev_len Try.underlying69 rfl) ?_
  refine PW_q rfl rfl (fun wq hq => ev_fieldAddr fo29_0 rfl) ?_
  refine PW_q rfl rfl (fun wq hq => ev_load one27 rfl (hq.cell (hB4.cell rfl))) ?_
  refine PW_q rfl rfl (fun wq hq => ev_move rfl) ?_
  have hl21 : y < A.ends.length := by omega
  have ht21 := totL_le hl21
  obtain ⟨a21, c21, hc21, hr21⟩ := hA.ends.row hl21
  refine PW_q rfl rfl (fun wq hq => ev_indexAddr Try.underlying27 sz69 rfl rfl (hA.ends.isSome (by omega)) (by omega) (by omega)) ?_
  refine PW_q rfl rfl (fun wq hq => ev_load one69 rfl (hq.cell (hc21))) ?_
  refine PW_q rfl rfl (fun wq hq => ev_len Try.underlying69 rfl) ?_
  refine PW_q rfl rfl (fun wq hq => ev_neq rfl rfl) ?_
  refine PW_q rfl rfl (fun wq hq => ev_move rfl) ?_
  refine PW_splitv (t := 25) rfl (fun hg24 => ?_) (fun hg24 => ?_)
  · have hp24 := of_decide_eq_true hg24
    refine PW_no rfl rfl rfl hg24 rfl ?_
    refine PW_no rfl rfl rfl hg24 rfl ?_
    refine PW_no rfl rfl rfl hg24 rfl ?_
    refine PW_no rfl rfl rfl hg24 rfl ?_
    refine PW_no rfl rfl rfl hg24 rfl ?_
    refine PW_no rfl rfl rfl hg24 rfl ?_
    refine PW_no rfl rfl rfl hg24 rfl ?_
    refine PW_no rfl rfl rfl hg24 rfl ?_
    refine PW_no rfl rfl rfl hg24 rfl ?_
    refine PW_no rfl rfl rfl hg24 rfl ?_
    refine PW_no rfl rfl rfl hg24 rfl ?_
    refine PW_q rfl rfl (fun wq hq => ev_pick_t rfl hg24 rfl) ?_
    refine PW_nil ?_
    refine thenE_n ?_
    refine W_cond_t rfl ?_
    refine W_seq ?_
    refine W_region ?_
    refine WL_q rfl (ev_assign rfl) ?_
    refine WL_nil ?_
    refine thenE_n ?_
    refine W_ret ?_
    refine thenE_r ?_
    refine ret1 rfl rfl ?_
    first | (exact ⟨vb (bf fun e => hp24 (by have := ((alike_iff hv hx hy (h1 := by omega) (h2 := by omega)).1 e).1; omega)), hE⟩) | (exact ⟨vb (bf fun e => hp36 ((alike_iff hv hx hy (h1 := by omega) (h2 := by omega)).1 e).2.1), hE⟩) | (exact ⟨vb (bf fun e => hp65 (((alike_iff hv hx hy (h1 := by omega) (h2 := by omega)).1 e).2.2 k hlt2 hlt3).1), hE⟩) | (refine ⟨vb (bf fun e => hp77 ?_), hE⟩; have h9 := (((alike_iff hv hx hy (h1 := by omega) (h2 := by omega)).1 e).2.2 k hlt2 hlt3).2; rw [getD_eq (by omega), getD_eq (by omega)] at h9; exact h9) | (refine ⟨vb (bt ((alike_iff hv hx hy (h1 := by omega) (h2 := by omega)).2 ⟨by omega, by omega, fun j q1 q2 => ?_⟩)), hE⟩; have h9 := hJ j (by omega) q1; rw [getD_eq q2] at h9; exact h9)
  · have hp24 := of_decide_eq_false hg24
    refine PW_qg rfl rfl rfl hg24 rfl (fun wq hq => ev_fieldAddr fo29_2 rfl) ?_
    refine PW_qg rfl rfl rfl hg24 rfl (fun wq hq => ev_load one23 rfl (hq.cell (hB4.cell rfl))) ?_
    refine PW_qg rfl rfl rfl hg24 rfl (fun wq hq => ev_move rfl) ?_
    refine PW_qg rfl rfl rfl hg24 rfl (fun wq hq => ev_indexAddr Try.underlying23 sz3 rfl rfl (hA.inputs.isSome (by omega)) (by omega) (by omega)) ?_
    have hc30 := hA.inputs.cell (i := x) (by omega)
    refine PW_qg rfl rfl rfl hg24 rfl (fun wq hq => ev_load one3 rfl (hq.cell (hc30))) ?_
    refine PW_qg rfl rfl rfl hg24 rfl (fun wq hq => ev_fieldAddr fo29_2 rfl) ?_
    refine PW_qg rfl rfl rfl hg24 rfl (fun wq hq => ev_load one23 rfl (hq.cell (hB4.cell rfl))) ?_
    refine PW_qg rfl rfl rfl hg24 rfl (fun wq hq => ev_move rfl) ?_
    refine PW_qg rfl rfl rfl hg24 rfl (fun wq hq => ev_indexAddr Try.underlying23 sz3 rfl rfl (hA.inputs.isSome (by omega)) (by omega) (by omega)) ?_
    have hc35 := hA.inputs.cell (i := y) (by omega)
    refine PW_qg rfl rfl rfl hg24 rfl (fun wq hq => ev_load one3 rfl (hq.cell (hc35))) ?_
    refine PW_qg rfl rfl rfl hg24 rfl (fun wq hq => ev_neq rfl rfl) ?_
    refine PW_q rfl rfl (fun wq hq => ev_pick_f rfl hg24 rfl) ?_
    refine PW_nil ?_
    refine thenE_n ?_
    refine W_cond rfl (fun hg36 => ?_) (fun hg36 => ?_)
    · have hp36 := of_decide_eq_true hg36
      refine W_seq ?_
      refine W_region ?_
      refine WL_q rfl (ev_assign rfl) ?_
      refine WL_nil ?_
      refine thenE_n ?_
      refine W_ret ?_
      refine thenE_r ?_
      refine ret1 rfl rfl ?_
      first | (exact ⟨vb (bf fun e => hp24 (by have := ((alike_iff hv hx hy (h1 := by omega) (h2 := by omega)).1 e).1; omega)), hE⟩) | (exact ⟨vb (bf fun e => hp36 ((alike_iff hv hx hy (h1 := by omega) (h2 := by omega)).1 e).2.1), hE⟩) | (exact ⟨vb (bf fun e => hp65 (((alike_iff hv hx hy (h1 := by omega) (h2 := by omega)).1 e).2.2 k hlt2 hlt3).1), hE⟩) | (refine ⟨vb (bf fun e => hp77 ?_), hE⟩; have h9 := (((alike_iff hv hx hy (h1 := by omega) (h2 := by omega)).1 e).2.2 k hlt2 hlt3).2; rw [getD_eq (by omega), getD_eq (by omega)] at h9; exact h9) | (refine ⟨vb (bt ((alike_iff hv hx hy (h1 := by omega) (h2 := by omega)).2 ⟨by omega, by omega, fun j q1 q2 => ?_⟩)), hE⟩; have h9 := hJ j (by omega) q1; rw [getD_eq q2] at h9; exact h9)
    · have hp36 := of_decide_eq_false hg36
      refine W_skip ?_
      refine thenE_n ?_
      refine W_seq ?_
      refine W_seq ?_
      refine W_region ?_
      refine WL_q rfl (ev_fieldAddr fo29_0 rfl) ?_
      refine WL_q rfl (ev_load one27 rfl (hB4.cell rfl)) ?_
      refine WL_q rfl (ev_move rfl) ?_
      have hl41 : x < A.ends.length := by omega
      have ht41 := totL_le hl41
      obtain ⟨a41, c41, hc41, hr41⟩ := hA.ends.row hl41
      refine WL_q rfl (ev_indexAddr Try.underlying27 sz69 rfl rfl (hA.ends.isSome (by omega)) (by omega) (by omega)) ?_
      refine WL_q rfl (ev_load one69 rfl (hc41)) ?_
      refine WL_q rfl (ev_len Try.underlying69 rfl) ?_
      refine WL_q rfl (ev_move rfl) ?_
      refine WL_nil ?_
      refine thenE_n ?_
      refine W_block ?_
      refine W_loopC (G := Nat) [(1, _), (3, _), (4, _), (42, _), (43, _)] ((Subs.c rfl (Subs.c rfl (Subs.c rfl (Subs.c rfl (Subs.c rfl Subs.n)))))) (fun k => [(44, VI (k : Int))]) (fun k w' => Ext wd1 w' ∧ k ≤ A.ends[x].length ∧ ∀ j (_h : j < k) (h2 : j < A.ends[x].length), A.ends[x][j].2 = (A.ends[y].getD j (0, 0)).2 ∧ C.getD A.ends[x][j].1.toNat 0 = C.getD (A.ends[y].getD j (0, 0)).1.toNat 0) (fun k => A.ends[x].length - k) 0 ((Subs.c (lkI rfl (by omega)) Subs.n)) (⟨Ext.refl _, ⟨by omega, fun j h => by omega⟩⟩) ?_
      rintro k wL0 ⟨hRL0, hk', hJ⟩
      have hzL0 := hRL0.size
      replace hE := hE.trans hRL0
      replace hA := hA.ext hRL0
      replace hC := hC.ext hRL0
      replace hB4 := hB4.ext hRL0
      replace hr15 := hr15.ext hRL0
      replace hr21 := hr21.ext hRL0
      replace hr41 := hr41.ext hRL0
      refine W_seq ?_
      refine W_region ?_
      refine WL_q rfl (ev_lss rfl rfl) ?_
      refine WL_nil ?_
      refine thenE_n ?_
      refine W_seq ?_
      refine W_cond rfl (fun hg45 => ?_) (fun hg45 => ?_)
      · have hp45 := of_decide_eq_true hg45
        refine W_skip ?_
        refine thenE_n ?_
        refine W_seq ?_
        refine W_block ?_
        refine W_seq ?_
        refine W_region ?_
        refine WL_q rfl (ev_move rfl) ?_
        have hlt2 : k < A.ends[x].length := by omega
        have hlt3 : k < A.ends[y].length := by omega
        obtain ⟨he1, he2⟩ := hv.ends.at hx hlt2
        obtain ⟨hf1, hf2⟩ := hv.ends.at hy hlt3
        refine WL_q rfl (ev_indexAddr Try.underlying69 sz71 rfl rfl (hr41.isSome (by omega)) (by omega) (by omega)) ?_
        refine WL_q rfl (ev_loads st71 sz71 rfl (hr41.cells (i := k) (by omega)) rfl) ?_
        refine WL_m rfl (ev_alloc zr71) ?_
        rintro _ w10 ⟨rfl, hN10⟩
        have hz10 := hN10.size
        replace hE := hE.trans hN10.ext
        replace hRL0 := hRL0.trans hN10.ext
        replace hA := hA.ext hN10.ext
        replace hC := hC.ext hN10.ext
        replace hB4 := hB4.ext hN10.ext
        replace hr15 := hr15.ext hN10.ext
        replace hr21 := hr21.ext hN10.ext
        replace hr41 := hr41.ext hN10.ext
        have hB10 : Blk w10 _ _ [_, _] := hN10.blk
        refine WL_q rfl (ev_assign rfl) ?_
        refine WL_s (ev_stores sz71 rfl rfl rfl (by simp [Value.oneCell']) hB10 (by simp)) ?_
        rintro _ w5_5 hS5_5
        have hz5_5 := hS5_5.size
        replace hE := hE.sto hS5_5 (by omega)
        replace hRL0 := hRL0.sto hS5_5 (by omega)
        replace hA := hA.sto hS5_5 (by omega)
        replace hC := hC.sto hS5_5 (by omega)
        replace hB4 := hB4.sto hS5_5 (by omega)
        replace hr15 := hr15.sto hS5_5 (by omega)
        replace hr21 := hr21.sto hS5_5 (by omega)
        replace hr41 := hr41.sto hS5_5 (by omega)
        replace hB10 : Blk w5_5 _ _ [_, _] := hS5_5.blk
        refine WL_nil ?_
        refine thenE_n ?_
        refine W_seq ?_
        refine W_region ?_
        refine WL_q rfl (ev_fieldAddr fo29_0 rfl) ?_
        refine WL_q rfl (ev_load one27 rfl (hB4.cell rfl)) ?_
        refine WL_q rfl (ev_move rfl) ?_
        have hl52 : y < A.ends.length := by omega
        have ht52 := totL_le hl52
        obtain ⟨a52, c52, hc52, hr52⟩ := hA.ends.row hl52
        refine WL_q rfl (ev_indexAddr Try.underlying27 sz69 rfl rfl (hA.ends.isSome (by omega)) (by omega) (by omega)) ?_
        refine WL_q rfl (ev_load one69 rfl (hc52)) ?_
        refine WL_q rfl (ev_move rfl) ?_
        refine WL_q rfl (ev_indexAddr Try.underlying69 sz71 rfl rfl (hr52.isSome (by omega)) (by omega) (by omega)) ?_
        refine WL_q rfl (ev_loads st71 sz71 rfl (hr52.cells (i := k) (by omega)) rfl) ?_
        refine WL_m rfl (ev_alloc zr71) ?_
        rintro _ w11 ⟨rfl, hN11⟩
        have hz11 := hN11.size
        replace hE := hE.trans hN11.ext
        replace hRL0 := hRL0.trans hN11.ext
        replace hA := hA.ext hN11.ext
        replace hC := hC.ext hN11.ext
        replace hB4 := hB4.ext hN11.ext
        replace hr15 := hr15.ext hN11.ext
        replace hr21 := hr21.ext hN11.ext
        replace hr41 := hr41.ext hN11.ext
        replace hB10 := hB10.ext hN11.ext
        replace hr52 := hr52.ext hN11.ext
        have hB11 : Blk w11 _ _ [_, _] := hN11.blk
        refine WL_s (ev_stores sz71 rfl rfl rfl (by simp [Value.oneCell']) hB11 (by simp)) ?_
        rintro _ w6_9 hS6_9
        have hz6_9 := hS6_9.size
        replace hE := hE.sto hS6_9 (by omega)
        replace hRL0 := hRL0.sto hS6_9 (by omega)
        replace hA := hA.sto hS6_9 (by omega)
        replace hC := hC.sto hS6_9 (by omega)
        replace hB4 := hB4.sto hS6_9 (by omega)
        replace hr15 := hr15.sto hS6_9 (by omega)
        replace hr21 := hr21.sto hS6_9 (by omega)
        replace hr41 := hr41.sto hS6_9 (by omega)
        replace hB10 := hB10.sto hS6_9 (by omega)
        replace hr52 := hr52.sto hS6_9 (by omega)
        replace hB11 : Blk w6_9 _ _ [_, _] := hS6_9.blk
        refine WL_nil ?_
        refine thenE_n ?_
        refine W_seq ?_
        refine W_drawE [(0, true), (1, true), (2, true), (3, true), (4, true), (5, true), (6, true), (7, true), (8, true), (9, true), (10, true), (11, true), (12, true), (13, true), (14, true), (15, true), (16, true), (17, true), (18, true), (19, true), (20, true), (21, true), (22, true)] mixed (by kernel_rfl) rfl (by kernel_rfl) ?_
        intro wd7 hEd7 hzd7
        replace hE := hE.trans hEd7
        replace hRL0 := hRL0.trans hEd7
        replace hA := hA.ext hEd7
        replace hC := hC.ext hEd7
        replace hB4 := hB4.ext hEd7
        replace hr15 := hr15.ext hEd7
        replace hr21 := hr21.ext hEd7
        replace hr41 := hr41.ext hEd7
        replace hB10 := hB10.ext hEd7
        replace hr52 := hr52.ext hEd7
        replace hB11 := hB11.ext hEd7
        have hDd7 := Ext.refl wd7
        refine PW_q rfl rfl (fun wq hq => ev_move rfl) ?_
        refine PW_q rfl rfl (fun wq hq => ev_len Try.underlying23 rfl) ?_
        refine PW_q rfl rfl (fun wq hq => ev_gtr rfl rfl) ?_
        refine PW_q rfl rfl (fun wq hq => ev_move rfl) ?_
        refine PW_splitv (t := 60) rfl (fun hg59 => ?_) (fun hg59 => ?_)
        · have hp59 := of_decide_eq_true hg59
          refine PW_qg rfl rfl rfl hg59 rfl (fun wq hq => ev_fieldAddr fo71_1 rfl) ?_
          refine PW_qg rfl rfl rfl hg59 rfl (fun wq hq => ev_load one3 rfl (hq.cell (hB10.cell rfl))) ?_
          refine PW_qg rfl rfl rfl hg59 rfl (fun wq hq => ev_fieldAddr fo71_1 rfl) ?_
          refine PW_qg rfl rfl rfl hg59 rfl (fun wq hq => ev_load one3 rfl (hq.cell (hB11.cell rfl))) ?_
          refine PW_qg rfl rfl rfl hg59 rfl (fun wq hq => ev_neq rfl rfl) ?_
          refine PW_qg rfl rfl rfl hg59 rfl (fun wq hq => ev_move rfl) ?_
          refine PW_splitv (t := 66) rfl (fun hg65 => ?_) (fun hg65 => ?_)
          · have hp65 := of_decide_eq_true hg65
            refine PW_no rfl rfl rfl hg65 rfl ?_
            refine PW_no rfl rfl rfl hg65 rfl ?_
            refine PW_no rfl rfl rfl hg65 rfl ?_
            refine PW_no rfl rfl rfl hg65 rfl ?_
            refine PW_no rfl rfl rfl hg65 rfl ?_
            refine PW_no rfl rfl rfl hg65 rfl ?_
            refine PW_no rfl rfl rfl hg65 rfl ?_
            refine PW_no rfl rfl rfl hg65 rfl ?_
            refine PW_no rfl rfl rfl hg65 rfl ?_
            refine PW_no rfl rfl rfl hg65 rfl ?_
            refine PW_no rfl rfl rfl hg65 rfl ?_
            refine PW_qg rfl rfl rfl hg59 rfl (fun wq hq => ev_pick_t rfl hg65 rfl) ?_
            refine PW_q rfl rfl (fun wq hq => ev_pick_t rfl hg59 rfl) ?_
            refine PW_nil ?_
            refine thenE_n ?_
            refine W_cond_t rfl ?_
            refine W_seq ?_
            refine W_region ?_
            refine WL_q rfl (ev_assign rfl) ?_
            refine WL_nil ?_
            refine thenE_n ?_
            refine W_ret ?_
            refine blockE_r ?_
            refine thenE_r ?_
            refine thenE_r ?_
            refine blockE_r ?_
            refine thenE_r ?_
            refine ret1 rfl rfl ?_
            first | (exact ⟨vb (bf fun e => hp24 (by have := ((alike_iff hv hx hy (h1 := by omega) (h2 := by omega)).1 e).1; omega)), hE⟩) | (exact ⟨vb (bf fun e => hp36 ((alike_iff hv hx hy (h1 := by omega) (h2 := by omega)).1 e).2.1), hE⟩) | (exact ⟨vb (bf fun e => hp65 (((alike_iff hv hx hy (h1 := by omega) (h2 := by omega)).1 e).2.2 k hlt2 hlt3).1), hE⟩) | (refine ⟨vb (bf fun e => hp77 ?_), hE⟩; have h9 := (((alike_iff hv hx hy (h1 := by omega) (h2 := by omega)).1 e).2.2 k hlt2 hlt3).2; rw [getD_eq (by omega), getD_eq (by omega)] at h9; exact h9) | (refine ⟨vb (bt ((alike_iff hv hx hy (h1 := by omega) (h2 := by omega)).2 ⟨by omega, by omega, fun j q1 q2 => ?_⟩)), hE⟩; have h9 := hJ j (by omega) q1; rw [getD_eq q2] at h9; exact h9)
          · have hp65 := of_decide_eq_false hg65
            refine PW_qg rfl rfl rfl hg65 rfl (fun wq hq => ev_move rfl) ?_
            refine PW_qg rfl rfl rfl hg65 rfl (fun wq hq => ev_fieldAddr fo71_0 rfl) ?_
            refine PW_qg rfl rfl rfl hg65 rfl (fun wq hq => ev_load one3 rfl (hq.cell (hB10.cell rfl))) ?_
            refine PW_qg rfl rfl rfl hg65 rfl (fun wq hq => ev_indexAddr Try.underlying23 sz3 rfl rfl (hC.isSome (by omega)) (by omega) (by omega)) ?_
            have hc71 := hC.cell (i := A.ends[x][k].1.toNat) (by omega)
            refine PW_qg rfl rfl rfl hg65 rfl (fun wq hq => ev_load one3 rfl (hq.cell (hc71))) ?_
            refine PW_qg rfl rfl rfl hg65 rfl (fun wq hq => ev_move rfl) ?_
            refine PW_qg rfl rfl rfl hg65 rfl (fun wq hq => ev_fieldAddr fo71_0 rfl) ?_
            refine PW_qg rfl rfl rfl hg65 rfl (fun wq hq => ev_load one3 rfl (hq.cell (hB11.cell rfl))) ?_
            refine PW_qg rfl rfl rfl hg65 rfl (fun wq hq => ev_indexAddr Try.underlying23 sz3 rfl rfl (hC.isSome (by omega)) (by omega) (by omega)) ?_
            have hc76 := hC.cell (i := A.ends[y][k].1.toNat) (by omega)
            refine PW_qg rfl rfl rfl hg65 rfl (fun wq hq => ev_load one3 rfl (hq.cell (hc76))) ?_
            refine PW_qg rfl rfl rfl hg65 rfl (fun wq hq => ev_neq rfl rfl) ?_
            refine PW_qg rfl rfl rfl hg59 rfl (fun wq hq => ev_pick_f rfl hg65 rfl) ?_
            refine PW_q rfl rfl (fun wq hq => ev_pick_t rfl hg59 rfl) ?_
            refine PW_nil ?_
            refine thenE_n ?_
            refine W_cond rfl (fun hg77 => ?_) (fun hg77 => ?_)
            · have hp77 := of_decide_eq_true hg77
              refine W_seq ?_
              refine W_region ?_
              refine WL_q rfl (ev_assign rfl) ?_
              refine WL_nil ?_
              refine thenE_n ?_
              refine W_ret ?_
              refine blockE_r ?_
              refine thenE_r ?_
              refine thenE_r ?_
              refine blockE_r ?_
              refine thenE_r ?_
              refine ret1 rfl rfl ?_
              first | (exact ⟨vb (bf fun e => hp24 (by have := ((alike_iff hv hx hy (h1 := by omega) (h2 := by omega)).1 e).1; omega)), hE⟩) | (exact ⟨vb (bf fun e => hp36 ((alike_iff hv hx hy (h1 := by omega) (h2 := by omega)).1 e).2.1), hE⟩) | (exact ⟨vb (bf fun e => hp65 (((alike_iff hv hx hy (h1 := by omega) (h2 := by omega)).1 e).2.2 k hlt2 hlt3).1), hE⟩) | (refine ⟨vb (bf fun e => hp77 ?_), hE⟩; have h9 := (((alike_iff hv hx hy (h1 := by omega) (h2 := by omega)).1 e).2.2 k hlt2 hlt3).2; rw [getD_eq (by omega), getD_eq (by omega)] at h9; exact h9) | (refine ⟨vb (bt ((alike_iff hv hx hy (h1 := by omega) (h2 := by omega)).2 ⟨by omega, by omega, fun j q1 q2 => ?_⟩)), hE⟩; have h9 := hJ j (by omega) q1; rw [getD_eq q2] at h9; exact h9)
            · have hp77 := of_decide_eq_false hg77
              refine W_skip ?_
              refine blockE_n ?_
              refine thenE_n ?_
              refine W_region ?_
              refine WL_q rfl (ev_add rfl rfl (by omega)) ?_
              refine WL_q rfl (ev_move rfl) ?_
              refine WL_nil ?_
              refine thenE_n ?_
              exact ⟨k + 1, (Subs.c rfl (Subs.c rfl (Subs.c rfl (Subs.c rfl (Subs.c rfl Subs.n))))), (Subs.c (lkI rfl (by omega)) Subs.n), ⟨hRL0, ⟨by omega, dsucc (P := fun j h2 => A.ends[x][j].2 = (A.ends[y].getD j (0, 0)).2 ∧ C.getD A.ends[x][j].1.toNat 0 = C.getD (A.ends[y].getD j (0, 0)).1.toNat 0) hJ hlt2 (by rw [getD_eq (show k < A.ends[y].length by omega)]; refine ⟨by omega, ?_⟩; rw [getD_eq (by omega), getD_eq (by omega)]; omega)⟩⟩, by first | omega | (dsimp only; omega)⟩
        · have hp59 := of_decide_eq_false hg59
          omega
      · have hp45 := of_decide_eq_false hg45
        refine W_exit ?_
        refine thenE_x ?_
        refine thenE_x ?_
        refine blockE_hit ?_
        refine thenE_n ?_
        refine W_seq ?_
        refine W_region ?_
        refine WL_q rfl (ev_assign rfl) ?_
        refine WL_nil ?_
        refine thenE_n ?_
        refine W_ret ?_
        refine ret1 rfl rfl ?_
        first | (exact ⟨vb (bf fun e => hp24 (by have := ((alike_iff hv hx hy (h1 := by omega) (h2 := by omega)).1 e).1; omega)), hE⟩) | (exact ⟨vb (bf fun e => hp36 ((alike_iff hv hx hy (h1 := by omega) (h2 := by omega)).1 e).2.1), hE⟩) | (exact ⟨vb (bf fun e => hp65 (((alike_iff hv hx hy (h1 := by omega) (h2 := by omega)).1 e).2.2 k hlt2 hlt3).1), hE⟩) | (refine ⟨vb (bf fun e => hp77 ?_), hE⟩; have h9 := (((alike_iff hv hx hy (h1 := by omega) (h2 := by omega)).1 e).2.2 k hlt2 hlt3).2; rw [getD_eq (by omega), getD_eq (by omega)] at h9; exact h9) | (refine ⟨vb (bt ((alike_iff hv hx hy (h1 := by omega) (h2 := by omega)).2 ⟨by omega, by omega, fun j q1 q2 => ?_⟩)), hE⟩; have h9 := hJ j (by omega) q1; rw [getD_eq q2] at h9; exact h9)

set_option maxHeartbeats 4000000 in
set_option maxRecDepth 100000 in
theorem viStep_nil {lo hi : Nat} (h : NA) (A : Net) (w : World) (hA : IsNet lo hi w h A) (hhi : hi ≤ w.heap.size) (hn : totN A ≤ 1048576) (hv : VOk A) :
    Fn Try.prog 108 #[netV h A, .slice none 0 0] w (fun r w' => ∃ a' c', r = .slice a' A.ends.length c' ∧ Own w.heap.size w' 3 1 a' A.ends.length c' ((classOf (vkeys A.ends A.inputs none)).map VI) ∧ Ext w w') := by
  have hq1 := totL_len A.ends
  have hm1 : totL A.ends + A.ids.length + A.inputs.length ≤ 1048576 := hn
  have hpos := hv.pos
  have hks := vkeys_len A.ends A.inputs none
  have hE := Ext.refl w
  refine Fn_of Try.func108 rfl rfl (by kernel_rfl) rfl ?_
  refine W_seq ?_
  refine W_region ?_
  refine WL_m rfl (ev_box rfl) ?_
  rintro _ w2 ⟨rfl, hN2⟩
  have hz2 := hN2.size
  replace hE := hE.trans hN2.ext
  replace hA := hA.ext hN2.ext
  have hB2 : Blk w2 _ _ [_, _, _] := hN2.blk
  refine WL_q rfl (ev_assign rfl) ?_
  refine WL_nil ?_
  refine thenE_n ?_
  refine W_seq ?_
  refine W_region ?_
  refine WL_q rfl (ev_fieldAddr fo29_0 rfl) ?_
  refine WL_q rfl (ev_load one27 rfl (hB2.cell rfl)) ?_
  refine WL_q rfl (ev_len Try.underlying27 rfl) ?_
  refine WL_m rfl (ev_makeN Try.underlying23 el3 rfl rfl rfl (by omega) (by omega)) ?_
  rintro _ w13 ⟨rfl, hN13⟩
  have hz13 := hN13.size
  replace hE := hE.trans hN13.ext
  replace hA := hA.ext hN13.ext
  replace hB2 := hB2.ext hN13.ext
  have hB13 := hN13.blk
  replace hB13 := hB13.to (fillI_zero_n (by rw [classOf_len, hks] : (classOf (vkeys A.ends A.inputs none)).length = A.ends.length))
  refine WL_q rfl (ev_assign rfl) ?_
  refine WL_nil ?_
  refine thenE_n ?_
  refine W_seq ?_
  refine W_region ?_
  refine WL_q rfl (ev_assign rfl) ?_
  refine WL_nil ?_
  refine thenE_n ?_
  refine W_seq ?_
  refine W_seq ?_
  refine W_region ?_
  refine WL_q rfl (ev_fieldAddr fo29_0 rfl) ?_
  refine WL_q rfl (ev_load one27 rfl (hB2.cell rfl)) ?_
  refine WL_q rfl (ev_len Try.underlying27 rfl) ?_
  refine WL_q rfl (ev_move rfl) ?_
  refine WL_nil ?_
  refine thenE_n ?_
  refine W_block ?_
  refine W_loopC (G := Nat) [(1, _), (2, _), (5, _), (16, _)] ((Subs.c rfl (Subs.c rfl (Subs.c rfl (Subs.c rfl Subs.n))))) (fun i => [(6, VI (((dds ((vkeys A.ends A.inputs none).take i)).length : Nat) : Int)), (17, VI (i : Int))]) (fun i w' => KX (w2.heap.size) w13 w' ∧ i ≤ A.ends.length ∧ Blk w' w2.heap.size 3 (fillI (classOf (vkeys A.ends A.inputs none)) i)) (fun i => A.ends.length - i) 0 ((Subs.c rfl (Subs.c (lkI rfl (by omega)) Subs.n))) (⟨KX.refl _ _, ⟨by omega, hB13⟩⟩) ?_
  rintro i wL0 ⟨hRL0, hi', hBo⟩
  have hzL0 := hRL0.size
  replace hA := hA.kx hRL0 (by omega)
  replace hB2 := hB2.kx hRL0 (by omega)
  replace hE := hE.kx hRL0 (by omega)
  refine W_seq ?_
  refine W_region ?_
  refine WL_q rfl (ev_lss rfl rfl) ?_
  refine WL_nil ?_
  refine thenE_n ?_
  refine W_seq ?_
  refine W_cond rfl (fun hg18 => ?_) (fun hg18 => ?_)
  · have hp18 := of_decide_eq_true hg18
    refine W_skip ?_
    refine thenE_n ?_
    refine W_seq ?_
    refine W_block ?_
    refine W_seq ?_
    refine W_region ?_
    refine WL_q rfl (ev_move rfl) ?_
    refine WL_q rfl (ev_assign rfl) ?_
    refine WL_nil ?_
    refine thenE_n ?_
    refine W_seq ?_
    refine W_region ?_
    refine WL_q rfl (ev_assign rfl) ?_
    refine WL_nil ?_
    refine thenE_n ?_
    refine W_seq ?_
    refine W_seq ?_
    refine W_region ?_
    refine WL_q rfl (ev_assign rfl) ?_
    refine WL_nil ?_
    refine thenE_n ?_
    refine W_block ?_
    have hlt : i < A.ends.length := by omega
    have hdz := dds_size (vkeys A.ends A.inputs none) i
    refine W_loopC (G := Nat × Int) [(1, _), (2, _), (5, _), (6, _), (7, _), (16, _), (17, _)] ((Subs.c rfl (Subs.c rfl (Subs.c rfl (Subs.c rfl (Subs.c rfl (Subs.c rfl (Subs.c rfl Subs.n)))))))) (fun ⟨u, q⟩ => [(8, VI q), (9, VI (u : Int))]) (fun ⟨u, q⟩ w' => Ext wL0 w' ∧ u ≤ i ∧ ((q = -1 ∧ ∀ j (_h : j < u) (h2 : j < A.ends.length), vkey A.ends A.inputs none j ≠ vkey A.ends A.inputs none i) ∨ ∃ m : Nat, q = (m : Int) ∧ m < i ∧ vkey A.ends A.inputs none m = vkey A.ends A.inputs none i)) (fun g => i - g.1) (0, -1) ((Subs.c (lkI rfl (by omega)) (Subs.c (lkI rfl (by omega)) Subs.n))) (⟨Ext.refl _, ⟨by omega, .inl ⟨rfl, fun j h => by omega⟩⟩⟩) ?_
    rintro ⟨u, q⟩ wL2 ⟨hRL2, hu', hJ⟩
    have hzL2 := hRL2.size
    replace hE := hE.trans hRL2
    replace hRL0 := hRL0.trans hRL2
    replace hA := hA.ext hRL2
    replace hB2 := hB2.ext hRL2
    replace hBo := hBo.ext hRL2
    refine W_seq ?_
    refine W_seq ?_
    refine W_region ?_
    refine WL_q rfl (ev_move rfl) ?_
    refine WL_q rfl (ev_move rfl) ?_
    refine WL_q rfl (ev_lss rfl rfl) ?_
    refine WL_q rfl (ev_move rfl) ?_
    refine WL_splitv (t := 23) rfl (fun hg22 => ?_) (fun hg22 => ?_)
    · have hp22 := of_decide_eq_true hg22
      refine WL_qg rfl rfl hg22 rfl (ev_move rfl) ?_
      refine WL_qg rfl rfl hg22 rfl (ev_lss rfl rfl) ?_
      refine WL_q rfl (ev_pick_t rfl hg22 rfl) ?_
      refine WL_nil ?_
      refine thenE_n ?_
      refine W_cond rfl (fun hg25 => ?_) (fun hg25 => ?_)
      · have hp25 := of_decide_eq_true hg25
        refine W_skip ?_
        refine thenE_n ?_
        refine W_seq ?_
        refine W_block ?_
        refine W_seq ?_
        refine W_region ?_
        refine WL_q rfl (ev_loads st29 sz29 rfl (cellsB hB2) rfl) ?_
        refine WL_q rfl (ev_move rfl) ?_
        refine WL_q rfl (ev_move rfl) ?_
        refine WL_q rfl (ev_move rfl) ?_
        refine WL_m rfl (ev_call rfl (viAlike_nil _ A u i _ hA (by omega) (by omega) hv (by omega) hlt)) ?_
        rintro _ w33 ⟨rfl, hE33⟩
        have hz33 := hE33.size
        replace hE := hE.trans hE33
        replace hRL0 := hRL0.trans hE33
        replace hRL2 := hRL2.trans hE33
        replace hA := hA.ext hE33
        replace hB2 := hB2.ext hE33
        replace hBo := hBo.ext hE33
        refine WL_nil ?_
        refine thenE_n ?_
        refine W_cond rfl (fun hg33 => ?_) (fun hg33 => ?_)
        · have hp33 := of_decide_eq_true hg33
          refine W_region ?_
          refine WL_q rfl (ev_move rfl) ?_
          refine WL_q rfl (ev_assign rfl) ?_
          refine WL_nil ?_
          refine blockE_n ?_
          refine thenE_n ?_
          refine W_region ?_
          refine WL_q rfl (ev_move rfl) ?_
          refine WL_q rfl (ev_add rfl rfl (by omega)) ?_
          refine WL_q rfl (ev_assign rfl) ?_
          refine WL_nil ?_
          refine thenE_n ?_
          exact ⟨(u + 1, (u : Int)), (Subs.c rfl (Subs.c rfl (Subs.c rfl (Subs.c rfl (Subs.c rfl (Subs.c rfl (Subs.c rfl Subs.n))))))), (Subs.c (lkI rfl (by omega)) (Subs.c (lkI rfl (by omega)) Subs.n)), ⟨hRL2, ⟨by omega, .inr ⟨u, rfl, by omega, hp33⟩⟩⟩, by first | omega | (dsimp only; omega)⟩
        · have hp33 := of_decide_eq_false hg33
          refine W_skip ?_
          refine blockE_n ?_
          refine thenE_n ?_
          refine W_region ?_
          refine WL_q rfl (ev_move rfl) ?_
          refine WL_q rfl (ev_add rfl rfl (by omega)) ?_
          refine WL_q rfl (ev_assign rfl) ?_
          refine WL_nil ?_
          refine thenE_n ?_
          exact ⟨(u + 1, q), (Subs.c rfl (Subs.c rfl (Subs.c rfl (Subs.c rfl (Subs.c rfl (Subs.c rfl (Subs.c rfl Subs.n))))))), (Subs.c (lkI rfl (by omega)) (Subs.c (lkI rfl (by omega)) Subs.n)), ⟨hRL2, ⟨by omega, hJ.elim (fun hj => .inl ⟨hj.1, dsucc (P := fun j h2 => vkey A.ends A.inputs none j ≠ vkey A.ends A.inputs none i) hj.2 (by omega) hp33⟩) .inr⟩⟩, by first | omega | (dsimp only; omega)⟩
      · have hp25 := of_decide_eq_false hg25
        refine W_exit ?_
        refine thenE_x ?_
        refine thenE_x ?_
        refine blockE_hit ?_
        refine thenE_n ?_
        refine W_seq ?_
        refine W_region ?_
        refine WL_q rfl (ev_move rfl) ?_
        refine WL_q rfl (ev_geq rfl rfl) ?_
        refine WL_nil ?_
        refine thenE_n ?_
        refine W_cond rfl (fun hg36 => ?_) (fun hg36 => ?_)
        · have hp36 := of_decide_eq_true hg36
          refine W_region ?_
          refine WL_q rfl (ev_move rfl) ?_
          refine WL_q rfl (ev_move rfl) ?_
          refine WL_q rfl (ev_move rfl) ?_
          refine WL_q rfl (ev_move rfl) ?_
          obtain ⟨m, hqm, hmi, hme⟩ : ∃ m : Nat, q = (m : Int) ∧ m < i ∧ vkey A.ends A.inputs none m = vkey A.ends A.inputs none i := hJ.elim (fun hj => absurd hj.1 (by omega)) id
          have hkm : (vkeys A.ends A.inputs none)[m]'(by rw [hks]; omega) = (vkeys A.ends A.inputs none)[i]'(by rw [hks]; exact hlt) := by rw [vkeys_at, vkeys_at]; exact hme
          have hdk := dds_known (ks := (vkeys A.ends A.inputs none)) hmi (by rw [hks]; exact hlt) hkm
          subst hqm
          refine WL_q rfl (ev_indexAddr Try.underlying23 sz3 rfl rfl rfl (by omega) (by omega)) ?_
          refine WL_q rfl (ev_load one3 rfl (fill_cell hBo (m := m) hmi (by rw [classOf_len, hks]; omega) (by omega))) ?_
          refine WL_q rfl (ev_indexAddr Try.underlying23 sz3 rfl rfl rfl (by omega) (by omega)) ?_
          refine WL_s (ev_store sz3 rfl rfl rfl hBo (by rw [fillI_length (by rw [classOf_len, hks]; omega), classOf_len, hks]; omega)) ?_
          rintro _ w13_7 hS13_7
          have hz13_7 := hS13_7.size
          replace hE := hE.sto hS13_7 (by omega)
          replace hRL0 := hRL0.sto hS13_7 (by omega)
          replace hA := hA.sto hS13_7 (by omega)
          replace hB2 := hB2.sto hS13_7 (by omega)
          replace hBo := hS13_7.blk
          replace hBo := fill_val hBo (by rw [classOf_len, hks]; exact hlt) (cls_eq (by rw [hks]; omega) (by rw [hks]; exact hlt) hkm)
          refine WL_nil ?_
          refine blockE_n ?_
          refine thenE_n ?_
          refine W_region ?_
          refine WL_q rfl (ev_add rfl rfl (by omega)) ?_
          refine WL_q rfl (ev_move rfl) ?_
          refine WL_nil ?_
          refine thenE_n ?_
          exact ⟨i + 1, (Subs.c rfl (Subs.c rfl (Subs.c rfl (Subs.c rfl Subs.n)))), (Subs.c (lkI rfl (by rw [hdk])) (Subs.c (lkI rfl (by omega)) Subs.n)), ⟨hRL0, ⟨by omega, hBo⟩⟩, by first | omega | (dsimp only; omega)⟩
        · have hp36 := of_decide_eq_false hg36
          refine W_seq ?_
          refine W_region ?_
          refine WL_q rfl (ev_move rfl) ?_
          refine WL_q rfl (ev_move rfl) ?_
          refine WL_q rfl (ev_move rfl) ?_
          have hnt : (vkeys A.ends A.inputs none)[i]'(by rw [hks]; exact hlt) ∉ (vkeys A.ends A.inputs none).take i := not_take (by rw [hks]; exact hlt) (fun j h1 h2 => by rw [vkeys_at, vkeys_at]; exact hJ.elim (fun hj => hj.2 j (by omega) (by rw [hks] at h2; exact h2)) (fun ⟨m, hm, _⟩ => by omega))
          have hdf := dds_fresh (ks := (vkeys A.ends A.inputs none)) (by rw [hks]; exact hlt) hnt
          refine WL_q rfl (ev_indexAddr Try.underlying23 sz3 rfl rfl rfl (by omega) (by omega)) ?_
          refine WL_s (ev_store sz3 rfl rfl rfl hBo (by rw [fillI_length (by rw [classOf_len, hks]; omega), classOf_len, hks]; omega)) ?_
          rintro _ w14_4 hS14_4
          have hz14_4 := hS14_4.size
          replace hE := hE.sto hS14_4 (by omega)
          replace hRL0 := hRL0.sto hS14_4 (by omega)
          replace hA := hA.sto hS14_4 (by omega)
          replace hB2 := hB2.sto hS14_4 (by omega)
          replace hBo := hS14_4.blk
          replace hBo := fill_val hBo (by rw [classOf_len, hks]; exact hlt) (cls_fresh (by rw [hks]; exact hlt) hnt)
          refine WL_nil ?_
          refine thenE_n ?_
          refine W_region ?_
          refine WL_q rfl (ev_move rfl) ?_
          refine WL_q rfl (ev_add rfl rfl (by omega)) ?_
          refine WL_q rfl (ev_assign rfl) ?_
          refine WL_nil ?_
          refine blockE_n ?_
          refine thenE_n ?_
          refine W_region ?_
          refine WL_q rfl (ev_add rfl rfl (by omega)) ?_
          refine WL_q rfl (ev_move rfl) ?_
          refine WL_nil ?_
          refine thenE_n ?_
          exact ⟨i + 1, (Subs.c rfl (Subs.c rfl (Subs.c rfl (Subs.c rfl Subs.n)))), (Subs.c (lkI rfl (by rw [hdf]; omega)) (Subs.c (lkI rfl (by omega)) Subs.n)), ⟨hRL0, ⟨by omega, hBo⟩⟩, by first | omega | (dsimp only; omega)⟩
    · have hp22 := of_decide_eq_false hg22
      refine WL_no rfl rfl hg22 rfl ?_
      refine WL_no rfl rfl hg22 rfl ?_
      refine WL_q rfl (ev_pick_f rfl hg22 rfl) ?_
      refine WL_nil ?_
      refine thenE_n ?_
      refine W_cond_f rfl ?_
      refine W_exit ?_
      refine thenE_x ?_
      refine thenE_x ?_
      refine blockE_hit ?_
      refine thenE_n ?_
      refine W_seq ?_
      refine W_region ?_
      refine WL_q rfl (ev_move rfl) ?_
      refine WL_q rfl (ev_geq rfl rfl) ?_
      refine WL_nil ?_
      refine thenE_n ?_
      refine W_cond rfl (fun hg36 => ?_) (fun hg36 => ?_)
      · have hp36 := of_decide_eq_true hg36
        refine W_region ?_
        refine WL_q rfl (ev_move rfl) ?_
        refine WL_q rfl (ev_move rfl) ?_
        refine WL_q rfl (ev_move rfl) ?_
        refine WL_q rfl (ev_move rfl) ?_
        obtain ⟨m, hqm, hmi, hme⟩ : ∃ m : Nat, q = (m : Int) ∧ m < i ∧ vkey A.ends A.inputs none m = vkey A.ends A.inputs none i := hJ.elim (fun hj => absurd hj.1 (by omega)) id
        have hkm : (vkeys A.ends A.inputs none)[m]'(by rw [hks]; omega) = (vkeys A.ends A.inputs none)[i]'(by rw [hks]; exact hlt) := by rw [vkeys_at, vkeys_at]; exact hme
        have hdk := dds_known (ks := (vkeys A.ends A.inputs none)) hmi (by rw [hks]; exact hlt) hkm
        subst hqm
        refine WL_q rfl (ev_indexAddr Try.underlying23 sz3 rfl rfl rfl (by omega) (by omega)) ?_
        refine WL_q rfl (ev_load one3 rfl (fill_cell hBo (m := m) hmi (by rw [classOf_len, hks]; omega) (by omega))) ?_
        refine WL_q rfl (ev_indexAddr Try.underlying23 sz3 rfl rfl rfl (by omega) (by omega)) ?_
        refine WL_s (ev_store sz3 rfl rfl rfl hBo (by rw [fillI_length (by rw [classOf_len, hks]; omega), classOf_len, hks]; omega)) ?_
        rintro _ w13_7 hS13_7
        have hz13_7 := hS13_7.size
        replace hE := hE.sto hS13_7 (by omega)
        replace hRL0 := hRL0.sto hS13_7 (by omega)
        replace hA := hA.sto hS13_7 (by omega)
        replace hB2 := hB2.sto hS13_7 (by omega)
        replace hBo := hS13_7.blk
        replace hBo := fill_val hBo (by rw [classOf_len, hks]; exact hlt) (cls_eq (by rw [hks]; omega) (by rw [hks]; exact hlt) hkm)
        refine WL_nil ?_
        refine blockE_n ?_
        refine thenE_n ?_
        refine W_region ?_
        refine WL_q rfl (ev_add rfl rfl (by omega)) ?_
        refine WL_q rfl (ev_move rfl) ?_
        refine WL_nil ?_
        refine thenE_n ?_
        exact ⟨i + 1, (Subs.c rfl (Subs.c rfl (Subs.c rfl (Subs.c rfl Subs.n)))), (Subs.c (lkI rfl (by rw [hdk])) (Subs.c (lkI rfl (by omega)) Subs.n)), ⟨hRL0, ⟨by omega, hBo⟩⟩, by first | omega | (dsimp only; omega)⟩
      · have hp36 := of_decide_eq_false hg36
        refine W_seq ?_
        refine W_region ?_
        refine WL_q rfl (ev_move rfl) ?_
        refine WL_q rfl (ev_move rfl) ?_
        refine WL_q rfl (ev_move rfl) ?_
        have hnt : (vkeys A.ends A.inputs none)[i]'(by rw [hks]; exact hlt) ∉ (vkeys A.ends A.inputs none).take i := not_take (by rw [hks]; exact hlt) (fun j h1 h2 => by rw [vkeys_at, vkeys_at]; exact hJ.elim (fun hj => hj.2 j (by omega) (by rw [hks] at h2; exact h2)) (fun ⟨m, hm, _⟩ => by omega))
        have hdf := dds_fresh (ks := (vkeys A.ends A.inputs none)) (by rw [hks]; exact hlt) hnt
        refine WL_q rfl (ev_indexAddr Try.underlying23 sz3 rfl rfl rfl (by omega) (by omega)) ?_
        refine WL_s (ev_store sz3 rfl rfl rfl hBo (by rw [fillI_length (by rw [classOf_len, hks]; omega), classOf_len, hks]; omega)) ?_
        rintro _ w14_4 hS14_4
        have hz14_4 := hS14_4.size
        replace hE := hE.sto hS14_4 (by omega)
        replace hRL0 := hRL0.sto hS14_4 (by omega)
        replace hA := hA.sto hS14_4 (by omega)
        replace hB2 := hB2.sto hS14_4 (by omega)
        replace hBo := hS14_4.blk
        replace hBo := fill_val hBo (by rw [classOf_len, hks]; exact hlt) (cls_fresh (by rw [hks]; exact hlt) hnt)
        refine WL_nil ?_
        refine thenE_n ?_
        refine W_region ?_
        refine WL_q rfl (ev_move rfl) ?_
        refine WL_q rfl (ev_add rfl rfl (by omega)) ?_
        refine WL_q rfl (ev_assign rfl) ?_
        refine WL_nil ?_
        refine blockE_n ?_
        refine thenE_n ?_
        refine W_region ?_
        refine WL_q rfl (ev_add rfl rfl (by omega)) ?_
        refine WL_q rfl (ev_move rfl) ?_
        refine WL_nil ?_
        refine thenE_n ?_
        exact ⟨i + 1, (Subs.c rfl (Subs.c rfl (Subs.c rfl (Subs.c rfl Subs.n)))), (Subs.c (lkI rfl (by rw [hdf]; omega)) (Subs.c (lkI rfl (by omega)) Subs.n)), ⟨hRL0, ⟨by omega, hBo⟩⟩, by first | omega | (dsimp only; omega)⟩
  · have hp18 := of_decide_eq_false hg18
    refine W_exit ?_
    refine thenE_x ?_
    refine thenE_x ?_
    refine blockE_hit ?_
    refine thenE_n ?_
    refine W_seq ?_
    refine W_region ?_
    refine WL_q rfl (ev_move rfl) ?_
    refine WL_q rfl (ev_assign rfl) ?_
    refine WL_nil ?_
    refine thenE_n ?_
    refine W_ret ?_
    refine ret1 rfl rfl ?_
    have hi9 : i = A.ends.length := by omega
    subst hi9
    exact ⟨_, _, rfl, own_of_blk (hBo.to (fillI_done (by rw [classOf_len, hks]))) (by omega) (by rw [List.length_map, classOf_len, hks]; omega) (by omega), hE⟩

set_option maxHeartbeats 4000000 in
set_option maxRecDepth 100000 in
theorem viStep_some {lo hi lo2 hi2 : Nat} (h : NA) (A : Net) (a : Option Addr) (c : Nat) (C : List Int) (w : World) (hA : IsNet lo hi w h A) (hhi : hi ≤ w.heap.size) (hn : totN A ≤ 1048576) (hv : VOk A) (hC : Ints lo2 hi2 w a c C) (hhi2 : hi2 ≤ w.heap.size) (hCl : C.length = A.ends.length) :
    Fn Try.prog 108 #[netV h A, .slice a A.ends.length c] w (fun r w' => ∃ a' c', r = .slice a' A.ends.length c' ∧ Own w.heap.size w' 3 1 a' A.ends.length c' ((classOf (vkeys A.ends A.inputs (some C))).map VI) ∧ Ext w w') := by
  have hq1 := totL_len A.ends
  have hm1 : totL A.ends + A.ids.length + A.inputs.length ≤ 1048576 := hn
  have hpos := hv.pos
  have hks := vkeys_len A.ends A.inputs (some C)
  have hE := Ext.refl w
  refine Fn_of Try.func108 rfl rfl (by kernel_rfl) rfl ?_
  refine W_seq ?_
  refine W_region ?_
  refine WL_m rfl (ev_box rfl) ?_
  rintro _ w2 ⟨rfl, hN2⟩
  have hz2 := hN2.size
  replace hE := hE.trans hN2.ext
  replace hA := hA.ext hN2.ext
  replace hC := hC.ext hN2.ext
  have hB2 : Blk w2 _ _ [_, _, _] := hN2.blk
  refine WL_q rfl (ev_assign rfl) ?_
  refine WL_nil ?_
  refine thenE_n ?_
  refine W_seq ?_
  refine W_region ?_
  refine WL_q rfl (ev_fieldAddr fo29_0 rfl) ?_
  refine WL_q rfl (ev_load one27 rfl (hB2.cell rfl)) ?_
  refine WL_q rfl (ev_len Try.underlying27 rfl) ?_
  refine WL_m rfl (ev_makeN Try.underlying23 el3 rfl rfl rfl (by omega) (by omega)) ?_
  rintro _ w13 ⟨rfl, hN13⟩
  have hz13 := hN13.size
  replace hE := hE.trans hN13.ext
  replace hA := hA.ext hN13.ext
  replace hC := hC.ext hN13.ext
  replace hB2 := hB2.ext hN13.ext
  have hB13 := hN13.blk
  replace hB13 := hB13.to (fillI_zero_n (by rw [classOf_len, hks] : (classOf (vkeys A.ends A.inputs (some C))).length = A.ends.length))
  refine WL_q rfl (ev_assign rfl) ?_
  refine WL_nil ?_
  refine thenE_n ?_
  refine W_seq ?_
  refine W_region ?_
  refine WL_q rfl (ev_assign rfl) ?_
  refine WL_nil ?_
  refine thenE_n ?_
  refine W_seq ?_
  refine W_seq ?_
  refine W_region ?_
  refine WL_q rfl (ev_fieldAddr fo29_0 rfl) ?_
  refine WL_q rfl (ev_load one27 rfl (hB2.cell rfl)) ?_
  refine WL_q rfl (ev_len Try.underlying27 rfl) ?_
  refine WL_q rfl (ev_move rfl) ?_
  refine WL_nil ?_
  refine thenE_n ?_
  refine W_block ?_
  refine W_loopC (G := Nat) [(1, _), (2, _), (5, _), (16, _)] ((Subs.c rfl (Subs.c rfl (Subs.c rfl (Subs.c rfl Subs.n))))) (fun i => [(6, VI (((dds ((vkeys A.ends A.inputs (some C)).take i)).length : Nat) : Int)), (17, VI (i : Int))]) (fun i w' => KX (w2.heap.size) w13 w' ∧ i ≤ A.ends.length ∧ Blk w' w2.heap.size 3 (fillI (classOf (vkeys A.ends A.inputs (some C))) i)) (fun i => A.ends.length - i) 0 ((Subs.c rfl (Subs.c (lkI rfl (by omega)) Subs.n))) (⟨KX.refl _ _, ⟨by omega, hB13⟩⟩) ?_
  rintro i wL0 ⟨hRL0, hi', hBo⟩
  have hzL0 := hRL0.size
  replace hA := hA.kx hRL0 (by omega)
  replace hC := hC.kx hRL0 (by omega)
  replace hB2 := hB2.kx hRL0 (by omega)
  replace hE := hE.kx hRL0 (by omega)
  refine W_seq ?_
  refine W_region ?_
  refine WL_q rfl (ev_lss rfl rfl) ?_
  refine WL_nil ?_
  refine thenE_n ?_
  refine W_seq ?_
  refine W_cond rfl (fun hg18 => ?_) (fun hg18 => ?_)
  · have hp18 := of_decide_eq_true hg18
    refine W_skip ?_
    refine thenE_n ?_
    refine W_seq ?_
    refine W_block ?_
    refine W_seq ?_
    refine W_region ?_
    refine WL_q rfl (ev_move rfl) ?_
    refine WL_q rfl (ev_assign rfl) ?_
    refine WL_nil ?_
    refine thenE_n ?_
    refine W_seq ?_
    refine W_region ?_
    refine WL_q rfl (ev_assign rfl) ?_
    refine WL_nil ?_
    refine thenE_n ?_
    refine W_seq ?_
    refine W_seq ?_
    refine W_region ?_
    refine WL_q rfl (ev_assign rfl) ?_
    refine WL_nil ?_
    refine thenE_n ?_
    refine W_block ?_
    have hlt : i < A.ends.length := by omega
    have hdz := dds_size (vkeys A.ends A.inputs (some C)) i
    refine W_loopC (G := Nat × Int) [(1, _), (2, _), (5, _), (6, _), (7, _), (16, _), (17, _)] ((Subs.c rfl (Subs.c rfl (Subs.c rfl (Subs.c rfl (Subs.c rfl (Subs.c rfl (Subs.c rfl Subs.n)))))))) (fun ⟨u, q⟩ => [(8, VI q), (9, VI (u : Int))]) (fun ⟨u, q⟩ w' => Ext wL0 w' ∧ u ≤ i ∧ ((q = -1 ∧ ∀ j (_h : j < u) (h2 : j < A.ends.length), vkey A.ends A.inputs (some C) j ≠ vkey A.ends A.inputs (some C) i) ∨ ∃ m : Nat, q = (m : Int) ∧ m < i ∧ vkey A.ends A.inputs (some C) m = vkey A.ends A.inputs (some C) i)) (fun g => i - g.1) (0, -1) ((Subs.c (lkI rfl (by omega)) (Subs.c (lkI rfl (by omega)) Subs.n))) (⟨Ext.refl _, ⟨by omega, .inl ⟨rfl, fun j h => by omega⟩⟩⟩) ?_
    rintro ⟨u, q⟩ wL2 ⟨hRL2, hu', hJ⟩
    have hzL2 := hRL2.size
    replace hE := hE.trans hRL2
    replace hRL0 := hRL0.trans hRL2
    replace hA := hA.ext hRL2
    replace hC := hC.ext hRL2
    replace hB2 := hB2.ext hRL2
    replace hBo := hBo.ext hRL2
    refine W_seq ?_
    refine W_seq ?_
    refine W_region ?_
    refine WL_q rfl (ev_move rfl) ?_
    refine WL_q rfl (ev_move rfl) ?_
    refine WL_q rfl (ev_lss rfl rfl) ?_
    refine WL_q rfl (ev_move rfl) ?_
    refine WL_splitv (t := 23) rfl (fun hg22 => ?_) (fun hg22 => ?_)
    · have hp22 := of_decide_eq_true hg22
      refine WL_qg rfl rfl hg22 rfl (ev_move rfl) ?_
      refine WL_qg rfl rfl hg22 rfl (ev_lss rfl rfl) ?_
      refine WL_q rfl (ev_pick_t rfl hg22 rfl) ?_
      refine WL_nil ?_
      refine thenE_n ?_
      refine W_cond rfl (fun hg25 => ?_) (fun hg25 => ?_)
      · have hp25 := of_decide_eq_true hg25
        refine W_skip ?_
        refine thenE_n ?_
        refine W_seq ?_
        refine W_block ?_
        refine W_seq ?_
        refine W_region ?_
        refine WL_q rfl (ev_loads st29 sz29 rfl (cellsB hB2) rfl) ?_
        refine WL_q rfl (ev_move rfl) ?_
        refine WL_q rfl (ev_move rfl) ?_
        refine WL_q rfl (ev_move rfl) ?_
        refine WL_m rfl (ev_call rfl (viAlike_some _ A _ _ C u i _ hA (by omega) (by omega) hv (by omega) hlt hC (by omega) hCl)) ?_
        rintro _ w33 ⟨rfl, hE33⟩
        have hz33 := hE33.size
        replace hE := hE.trans hE33
        replace hRL0 := hRL0.trans hE33
        replace hRL2 := hRL2.trans hE33
        replace hA := hA.ext hE33
        replace hC := hC.ext hE33
        replace hB2 := hB2.ext hE33
        replace hBo := hBo.ext hE33
        refine WL_nil ?_
        refine thenE_n ?_
        refine W_cond rfl (fun hg33 => ?_) (fun hg33 => ?_)
        · have hp33 := of_decide_eq_true hg33
          refine W_region ?_
          refine WL_q rfl (ev_move rfl) ?_
          refine WL_q rfl (ev_assign rfl) ?_
          refine WL_nil ?_
          refine blockE_n ?_
          refine thenE_n ?_
          refine W_region ?_
          refine WL_q rfl (ev_move rfl) ?_
          refine WL_q rfl (ev_add rfl rfl (by omega)) ?_
          refine WL_q rfl (ev_assign rfl) ?_
          refine WL_nil ?_
          refine thenE_n ?_
          exact ⟨(u + 1, (u : Int)), (Subs.c rfl (Subs.c rfl (Subs.c rfl (Subs.c rfl (Subs.c rfl (Subs.c rfl (Subs.c rfl Subs.n))))))), (Subs.c (lkI rfl (by omega)) (Subs.c (lkI rfl (by omega)) Subs.n)), ⟨hRL2, ⟨by omega, .inr ⟨u, rfl, by omega, hp33⟩⟩⟩, by first | omega | (dsimp only; omega)⟩
        · have hp33 := of_decide_eq_false hg33
          refine W_skip ?_
          refine blockE_n ?_
          refine thenE_n ?_
          refine W_region ?_
          refine WL_q rfl (ev_move rfl) ?_
          refine WL_q rfl (ev_add rfl rfl (by omega)) ?_
          refine WL_q rfl (ev_assign rfl) ?_
          refine WL_nil ?_
          refine thenE_n ?_
          exact ⟨(u + 1, q), (Subs.c rfl (Subs.c rfl (Subs.c rfl (Subs.c rfl (Subs.c rfl (Subs.c rfl (Subs.c rfl Subs.n))))))), (Subs.c (lkI rfl (by omega)) (Subs.c (lkI rfl (by omega)) Subs.n)), ⟨hRL2, ⟨by omega, hJ.elim (fun hj => .inl ⟨hj.1, dsucc (P := fun j h2 => vkey A.ends A.inputs (some C) j ≠ vkey A.ends A.inputs (some C) i) hj.2 (by omega) hp33⟩) .inr⟩⟩, by first | omega | (dsimp only; omega)⟩
      · have hp25 := of_decide_eq_false hg25
        refine W_exit ?_
        refine thenE_x ?_
        refine thenE_x ?_
        refine blockE_hit ?_
        refine thenE_n ?_
        refine W_seq ?_
        refine W_region ?_
        refine WL_q rfl (ev_move rfl) ?_
        refine WL_q rfl (ev_geq rfl rfl) ?_
        refine WL_nil ?_
        refine thenE_n ?_
        refine W_cond rfl (fun hg36 => ?_) (fun hg36 => ?_)
        · have hp36 := of_decide_eq_true hg36
          refine W_region ?_
          refine WL_q rfl (ev_move rfl) ?_
          refine WL_q rfl (ev_move rfl) ?_
          refine WL_q rfl (ev_move rfl) ?_
          refine WL_q rfl (ev_move rfl) ?_
          obtain ⟨m, hqm, hmi, hme⟩ : ∃ m : Nat, q = (m : Int) ∧ m < i ∧ vkey A.ends A.inputs (some C) m = vkey A.ends A.inputs (some C) i := hJ.elim (fun hj => absurd hj.1 (by omega)) id
          have hkm : (vkeys A.ends A.inputs (some C))[m]'(by rw [hks]; omega) = (vkeys A.ends A.inputs (some C))[i]'(by rw [hks]; exact hlt) := by rw [vkeys_at, vkeys_at]; exact hme
          have hdk := dds_known (ks := (vkeys A.ends A.inputs (some C))) hmi (by rw [hks]; exact hlt) hkm
          subst hqm
          refine WL_q rfl (ev_indexAddr Try.underlying23 sz3 rfl rfl rfl (by omega) (by omega)) ?_
          refine WL_q rfl (ev_load one3 rfl (fill_cell hBo (m := m) hmi (by rw [classOf_len, hks]; omega) (by omega))) ?_
          refine WL_q rfl (ev_indexAddr Try.underlying23 sz3 rfl rfl rfl (by omega) (by omega)) ?_
          refine WL_s (ev_store sz3 rfl rfl rfl hBo (by rw [fillI_length (by rw [classOf_len, hks]; omega), classOf_len, hks]; omega)) ?_
          rintro _ w13_7 hS13_7
          have hz13_7 := hS13_7.size
          replace hE := hE.sto hS13_7 (by omega)
          replace hRL0 := hRL0.sto hS13_7 (by omega)
          replace hA := hA.sto hS13_7 (by omega)
          replace hC := hC.sto hS13_7 (by omega)
          replace hB2 := hB2.sto hS13_7 (by omega)
          replace hBo := hS13_7.blk
          replace hBo := fill_val hBo (by rw [classOf_len, hks]; exact hlt) (cls_eq (by rw [hks]; omega) (by rw [hks]; exact hlt) hkm)
          refine WL_nil ?_
          refine blockE_n ?_
          refine thenE_n ?_
          refine W_region ?_
          refine WL_q rfl (ev_add rfl rfl (by omega)) ?_
          refine WL_q rfl (ev_move rfl) ?_
          refine WL_nil ?_
          refine thenE_n ?_
          exact ⟨i + 1, (Subs.c rfl (Subs.c rfl (Subs.c rfl (Subs.c rfl Subs.n)))), (Subs.c (lkI rfl (by rw [hdk])) (Subs.c (lkI rfl (by omega)) Subs.n)), ⟨hRL0, ⟨by omega, hBo⟩⟩, by first | omega | (dsimp only; omega)⟩
        · have hp36 := of_decide_eq_false hg36
          refine W_seq ?_
          refine W_region ?_
          refine WL_q rfl (ev_move rfl) ?_
          refine WL_q rfl (ev_move rfl) ?_
          refine WL_q rfl (ev_move rfl) ?_
          have hnt : (vkeys A.ends A.inputs (some C))[i]'(by rw [hks]; exact hlt) ∉ (vkeys A.ends A.inputs (some C)).take i := not_take (by rw [hks]; exact hlt) (fun j h1 h2 => by rw [vkeys_at, vkeys_at]; exact hJ.elim (fun hj => hj.2 j (by omega) (by rw [hks] at h2; exact h2)) (fun ⟨m, hm, _⟩ => by omega))
          have hdf := dds_fresh (ks := (vkeys A.ends A.inputs (some C))) (by rw [hks]; exact hlt) hnt
          refine WL_q rfl (ev_indexAddr Try.underlying23 sz3 rfl rfl rfl (by omega) (by omega)) ?_
          refine WL_s (ev_store sz3 rfl rfl rfl hBo (by rw [fillI_length (by rw [classOf_len, hks]; omega), classOf_len, hks]; omega)) ?_
          rintro _ w14_4 hS14_4
          have hz14_4 := hS14_4.size
          replace hE := hE.sto hS14_4 (by omega)
          replace hRL0 := hRL0.sto hS14_4 (by omega)
          replace hA := hA.sto hS14_4 (by omega)
          replace hC := hC.sto hS14_4 (by omega)
          replace hB2 := hB2.sto hS14_4 (by omega)
          replace hBo := hS14_4.blk
          replace hBo := fill_val hBo (by rw [classOf_len, hks]; exact hlt) (cls_fresh (by rw [hks]; exact hlt) hnt)
          refine WL_nil ?_
          refine thenE_n ?_
          refine W_region ?_
          refine WL_q rfl (ev_move rfl) ?_
          refine WL_q rfl (ev_add rfl rfl (by omega)) ?_
          refine WL_q rfl (ev_assign rfl) ?_
          refine WL_nil ?_
          refine blockE_n ?_
          refine thenE_n ?_
          refine W_region ?_
          refine WL_q rfl (ev_add rfl rfl (by omega)) ?_
          refine WL_q rfl (ev_move rfl) ?_
          refine WL_nil ?_
          refine thenE_n ?_
          exact ⟨i + 1, (Subs.c rfl (Subs.c rfl (Subs.c rfl (Subs.c rfl Subs.n)))), (Subs.c (lkI rfl (by rw [hdf]; omega)) (Subs.c (lkI rfl (by omega)) Subs.n)), ⟨hRL0, ⟨by omega, hBo⟩⟩, by first | omega | (dsimp only; omega)⟩
    · have hp22 := of_decide_eq_false hg22
      refine WL_no rfl rfl hg22 rfl ?_
      refine WL_no rfl rfl hg22 rfl ?_
      refine WL_q rfl (ev_pick_f rfl hg22 rfl) ?_
      refine WL_nil ?_
      refine thenE_n ?_
      refine W_cond_f rfl ?_
      refine W_exit ?_
      refine thenE_x ?_
      refine thenE_x ?_
      refine blockE_hit ?_
      refine thenE_n ?_
      refine W_seq ?_
      refine W_region ?_
      refine WL_q rfl (ev_move rfl) ?_
      refine WL_q rfl (ev_geq rfl rfl) ?_
      refine WL_nil ?_
      refine thenE_n ?_
      refine W_cond rfl (fun hg36 => ?_) (fun hg36 => ?_)
      · have hp36 := of_decide_eq_true hg36
        refine W_region ?_
        refine WL_q rfl (ev_move rfl) ?_
        refine WL_q rfl (ev_move rfl) ?_
        refine WL_q rfl (ev_move rfl) ?_
        refine WL_q rfl (ev_move rfl) ?_
        obtain ⟨m, hqm, hmi, hme⟩ : ∃ m : Nat, q = (m : Int) ∧ m < i ∧ vkey A.ends A.inputs (some C) m = vkey A.ends A.inputs (some C) i := hJ.elim (fun hj => absurd hj.1 (by omega)) id
        have hkm : (vkeys A.ends A.inputs (some C))[m]'(by rw [hks]; omega) = (vkeys A.ends A.inputs (some C))[i]'(by rw [hks]; exact hlt) := by rw [vkeys_at, vkeys_at]; exact hme
        have hdk := dds_known (ks := (vkeys A.ends A.inputs (some C))) hmi (by rw [hks]; exact hlt) hkm
        subst hqm
        refine WL_q rfl (ev_indexAddr Try.underlying23 sz3 rfl rfl rfl (by omega) (by omega)) ?_
        refine WL_q rfl (ev_load one3 rfl (fill_cell hBo (m := m) hmi (by rw [classOf_len, hks]; omega) (by omega))) ?_
        refine WL_q rfl (ev_indexAddr Try.underlying23 sz3 rfl rfl rfl (by omega) (by omega)) ?_
        refine WL_s (ev_store sz3 rfl rfl rfl hBo (by rw [fillI_length (by rw [classOf_len, hks]; omega), classOf_len, hks]; omega)) ?_
        rintro _ w13_7 hS13_7
        have hz13_7 := hS13_7.size
        replace hE := hE.sto hS13_7 (by omega)
        replace hRL0 := hRL0.sto hS13_7 (by omega)
        replace hA := hA.sto hS13_7 (by omega)
        replace hC := hC.sto hS13_7 (by omega)
        replace hB2 := hB2.sto hS13_7 (by omega)
        replace hBo := hS13_7.blk
        replace hBo := fill_val hBo (by rw [classOf_len, hks]; exact hlt) (cls_eq (by rw [hks]; omega) (by rw [hks]; exact hlt) hkm)
        refine WL_nil ?_
        refine blockE_n ?_
        refine thenE_n ?_
        refine W_region ?_
        refine WL_q rfl (ev_add rfl rfl (by omega)) ?_
        refine WL_q rfl (ev_move rfl) ?_
        refine WL_nil ?_
        refine thenE_n ?_
        exact ⟨i + 1, (Subs.c rfl (Subs.c rfl (Subs.c rfl (Subs.c rfl Subs.n)))), (Subs.c (lkI rfl (by rw [hdk])) (Subs.c (lkI rfl (by omega)) Subs.n)), ⟨hRL0, ⟨by omega, hBo⟩⟩, by first | omega | (dsimp only; omega)⟩
      · have hp36 := of_decide_eq_false hg36
        refine W_seq ?_
        refine W_region ?_
        refine WL_q rfl (ev_move rfl) ?_
        refine WL_q rfl (ev_move rfl) ?_
        refine WL_q rfl (ev_move rfl) ?_
        have hnt : (vkeys A.ends A.inputs (some C))[i]'(by rw [hks]; exact hlt) ∉ (vkeys A.ends A.inputs (some C)).take i := not_take (by rw [hks]; exact hlt) (fun j h1 h2 => by rw [vkeys_at, vkeys_at]; exact hJ.elim (fun hj => hj.2 j (by omega) (by rw [hks] at h2; exact h2)) (fun ⟨m, hm, _⟩ => by omega))
        have hdf := dds_fresh (ks := (vkeys A.ends A.inputs (some C))) (by rw [hks]; exact hlt) hnt
        refine WL_q rfl (ev_indexAddr Try.underlying23 sz3 rfl rfl rfl (by omega) (by omega)) ?_
        refine WL_s (ev_store sz3 rfl rfl rfl hBo (by rw [fillI_length (by rw [classOf_len, hks]; omega), classOf_len, hks]; omega)) ?_
        rintro _ w14_4 hS14_4
        have hz14_4 := hS14_4.size
        replace hE := hE.sto hS14_4 (by omega)
        replace hRL0 := hRL0.sto hS14_4 (by omega)
        replace hA := hA.sto hS14_4 (by omega)
        replace hC := hC.sto hS14_4 (by omega)
        replace hB2 := hB2.sto hS14_4 (by omega)
        replace hBo := hS14_4.blk
        replace hBo := fill_val hBo (by rw [classOf_len, hks]; exact hlt) (cls_fresh (by rw [hks]; exact hlt) hnt)
        refine WL_nil ?_
        refine thenE_n ?_
        refine W_region ?_
        refine WL_q rfl (ev_move rfl) ?_
        refine WL_q rfl (ev_add rfl rfl (by omega)) ?_
        refine WL_q rfl (ev_assign rfl) ?_
        refine WL_nil ?_
        refine blockE_n ?_
        refine thenE_n ?_
        refine W_region ?_
        refine WL_q rfl (ev_add rfl rfl (by omega)) ?_
        refine WL_q rfl (ev_move rfl) ?_
        refine WL_nil ?_
        refine thenE_n ?_
        exact ⟨i + 1, (Subs.c rfl (Subs.c rfl (Subs.c rfl (Subs.c rfl Subs.n)))), (Subs.c (lkI rfl (by rw [hdf]; omega)) (Subs.c (lkI rfl (by omega)) Subs.n)), ⟨hRL0, ⟨by omega, hBo⟩⟩, by first | omega | (dsimp only; omega)⟩
  · have hp18 := of_decide_eq_false hg18
    refine W_exit ?_
    refine thenE_x ?_
    refine thenE_x ?_
    refine blockE_hit ?_
    refine thenE_n ?_
    refine W_seq ?_
    refine W_region ?_
    refine WL_q rfl (ev_move rfl) ?_
    refine WL_q rfl (ev_assign rfl) ?_
    refine WL_nil ?_
    refine thenE_n ?_
    refine W_ret ?_
    refine ret1 rfl rfl ?_
    have hi9 : i = A.ends.length := by omega
    subst hi9
    exact ⟨_, _, rfl, own_of_blk (hBo.to (fillI_done (by rw [classOf_len, hks]))) (by omega) (by rw [List.length_map, classOf_len, hks]; omega) (by omega), hE⟩

end Go.Proofs.Ytmdmpapdjgcchaa
