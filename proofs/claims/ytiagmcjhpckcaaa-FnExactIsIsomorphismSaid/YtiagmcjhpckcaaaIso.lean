/- Contracts of IsIsomorphism, of the program and of the reference; the walk of its law. -/
import Derived.Test.YtiagmcjhpckcaaaStd
import Derived.Test.YtiagmcjhpckcaaaPortMap
import Derived.Test.YtiagmcjhpckcaaaBfs
namespace Go.Proofs.Ytiagmcjhpckcaaa
open Go Go.RowKit

/-- f has the numbers 0 to n - 1, each once. -/
def IsPerm (f : List Int) (n : Int) : Prop := (f.length : Int) = n ∧ (∀ x ∈ f, 0 ≤ x ∧ x ≤ n - 1) ∧ f.Nodup
theorem perm_of {f : List Int} {n : Int} (hl : (f.length : Int) = n) (h : ∀ j (_h : j < f.length) (h2 : j < f.length), (0 ≤ f[j] ∧ f[j] ≤ n - 1) ∧ f[j] ∉ f.take j) : IsPerm f n :=
  ⟨hl, fun x hx => by obtain ⟨j, hj, rfl⟩ := List.mem_iff_getElem.1 hx; exact (h j hj hj).1, nodup_take fun j hj => (h j hj hj).2⟩
structure SeenB (f : List Int) (i n : Nat) (bs : List Bool) : Prop where
  len : bs.length = n
  on : ∀ k (h : k < bs.length), bs[k] = true ↔ (k : Int) ∈ f.take i
theorem SeenB.zero (f : List Int) (n : Nat) : SeenB f 0 n (List.replicate n false) := ⟨by simp, fun k h => by simp⟩
theorem SeenB.step {f : List Int} {i n : Nat} {bs : List Bool} (h : SeenB f i n bs) (hi : i < f.length) (h0 : 0 ≤ f[i]) (hn : f[i].toNat < n) : SeenB f (i + 1) n (bs.set f[i].toNat true) := by
  refine ⟨by simp [h.len], fun k hk => ?_⟩
  rw [List.take_succ_eq_append_getElem hi, List.mem_append, List.mem_singleton, List.getElem_set]
  split
  · rename_i e; simp only [true_iff]; right; omega
  · rename_i e
    rw [h.on k (by simpa using hk)]
    exact ⟨.inl, fun hk' => hk'.elim id fun e2 => absurd (by omega) e⟩
theorem boolmk {w : World} {b n : Nat} {T : TypeId} (h : Blk w b T (List.replicate n (VB false))) : Blk w b T ((List.replicate n false).map VB) := by rw [List.map_replicate]; exact h
def sameId (A B : Net) (f : List Int) (v : Nat) : Prop := 0 < A.ids.length → A.ids.getD v 0 = B.ids.getD (f.getD v 0).toNat 0
structure IsIso (A B : Net) (f : List Int) : Prop where
  nodes : A.ends.length = B.ends.length
  ids : A.ids.length = B.ids.length
  perm : IsPerm f A.ends.length
  pm : IsPM A B f
  same : ∀ v (_h : v < f.length), sameId A B f v
theorem NOk.idl {A : Net} (h : NOk A) : A.ids.length = 0 ∨ (A.ids.length : Int) = A.ends.length := h.ids.imp id (·.1)
theorem bne_dec {p q : Prop} [Decidable p] [Decidable q] (h : (decide p != decide q) = true) : ¬ (p ↔ q) := by
  intro e; by_cases hp : p <;> simp [hp, e.symm] at h <;> simp [e.1 hp] at h
theorem beq_dec' {p q : Prop} [Decidable p] [Decidable q] (h : (decide p != decide q) = false) : p ↔ q := by
  by_cases hp : p <;> by_cases hq : q <;> simp [hp, hq] at h ⊢
theorem perm_rng {f : List Int} {n : Nat} (h : IsPerm f n) : allR f 0 ((n : Int) - 1) = true := allR_true.2 h.2.1
theorem sameId_at {A B : Net} {f : List Int} {v : Nat} (hv : v < f.length) {h1 : v < A.ids.length} {h2 : f[v].toNat < B.ids.length} : sameId A B f v ↔ A.ids[v] = B.ids[f[v].toNat] := by
  unfold sameId
  rw [getD_eq hv, getD_eq h1, getD_eq h2]
  exact ⟨fun h => h (by omega), fun h _ => h⟩

set_option maxRecDepth 100000 in
theorem nePerm_spec {lo hi : Nat} (a : Option Addr) (c : Nat) (f : List Int) (n : Nat) (w : World) (hf : Ints lo hi w a c f) (hm : f.length ≤ 1048576) (hn : n ≤ 1048576) :
    Fn Try.prog 111 #[.slice a f.length c, VI (n : Int)] w (fun v w' => ∃ b, v = VB b ∧ (b = true ↔ IsPerm f n) ∧ Ext w w') := by
  have hcap := hf.cap
  have hE := Ext.refl w
  refine Fn_of Try.func111 rfl rfl (by kernel_rfl) rfl ?_
  refine W_seq ?_
  refine W_region ?_
  refine WL_q rfl (ev_assign rfl) ?_
  refine WL_nil ?_
  refine thenE_n ?_
  refine W_seq ?_
  refine W_seq ?_
  refine W_region ?_
  refine WL_q rfl (ev_move rfl) ?_
  refine WL_q rfl (ev_len Try.underlying23 rfl) ?_
  refine WL_q rfl (ev_move rfl) ?_
  refine WL_nil ?_
  refine thenE_n ?_
  refine W_block ?_
  refine W_loopC (G := Nat) [(0, _), (1, _), (7, _), (8, _)] ((Subs.c rfl (Subs.c rfl (Subs.c rfl (Subs.c rfl Subs.n))))) (fun i => [(9, VI (i : Int))]) (fun i w' => Ext w w' ∧ i ≤ f.length ∧ ∀ j (_h : j < i) (h2 : j < f.length), (0 ≤ f[j] ∧ f[j] ≤ (n : Int) - 1) ∧ f[j] ∉ f.take j) (fun i => f.length - i) 0 ((Subs.c (lkI rfl (by omega)) Subs.n)) (⟨Ext.refl _, ⟨by omega, fun j h => by omega⟩⟩) ?_
  rintro i wL0 ⟨hRL0, hi', hJ⟩
  have hzL0 := hRL0.size
  replace hE := hE.trans hRL0
  replace hf := hf.ext hRL0
  refine W_seq ?_
  refine W_region ?_
  refine WL_q rfl (ev_lss rfl rfl) ?_
  refine WL_nil ?_
  refine thenE_n ?_
  refine W_seq ?_
  refine W_cond rfl (fun hg10 => ?_) (fun hg10 => ?_)
  · have hp10 := of_decide_eq_true hg10
    refine W_skip ?_
    refine thenE_n ?_
    refine W_seq ?_
    refine W_block ?_
    refine W_seq ?_
    refine W_region ?_
    refine WL_q rfl (ev_move rfl) ?_
    have hlt : i < f.length := by omega
    refine WL_q rfl (ev_indexAddr Try.underlying23 sz3 rfl rfl (hf.isSome (by omega)) (by omega) (by omega)) ?_
    refine WL_q rfl (ev_load one3 rfl (hf.cell (i := i) (by omega))) ?_
    refine WL_q rfl (ev_assign rfl) ?_
    refine WL_q rfl (ev_assign rfl) ?_
    refine WL_nil ?_
    refine thenE_n ?_
    refine W_seq ?_
    refine W_region ?_
    refine WL_q rfl (ev_move rfl) ?_
    refine WL_q rfl (ev_move rfl) ?_
    refine WL_q rfl (ev_sub rfl rfl (by omega)) ?_
    refine WL_m rfl (ev_call rfl (l1In_spec _ _ _ _)) ?_
    rintro _ _ ⟨rfl, rfl⟩
    refine WL_q rfl (ev_not rfl) ?_
    refine WL_q rfl (ev_move rfl) ?_
    refine WL_splitv (t := 19) rfl (fun hg18 => ?_) (fun hg18 => ?_)
    · have hg17 := not_true hg18
      have hp17 := inR_false.1 hg17
      refine WL_no rfl rfl hg18 rfl ?_
      refine WL_no rfl rfl hg18 rfl ?_
      refine WL_no rfl rfl hg18 rfl ?_
      refine WL_no rfl rfl hg18 rfl ?_
      refine WL_no rfl rfl hg18 rfl ?_
      refine WL_q rfl (ev_pick_t rfl hg18 rfl) ?_
      refine WL_nil ?_
      refine thenE_n ?_
      refine W_cond_t rfl ?_
      refine W_seq ?_
      refine W_region ?_
      refine WL_q rfl (ev_assign rfl) ?_
      refine WL_nil ?_
      refine thenE_n ?_
      refine W_ret ?_
      refine blockE_r ?_
      refine thenE_r ?_
      refine thenE_r ?_
      refine blockE_r ?_
      refine thenE_r ?_
      refine ret1 rfl rfl ?_
      first | (exact ⟨false, rfl, ffI fun hk => hp17 (hk.2.1 _ (List.getElem_mem hlt)), hE⟩) | (exact ⟨false, rfl, ffI fun hk => take_nodup hk.2.2 hlt hp24, hE⟩) | (exact ⟨_, rfl, ⟨fun ho => perm_of (of_decide_eq_true ho) fun j h1 h2 => hJ j (by omega) h2, fun hk => decide_eq_true hk.1⟩, hE⟩)
    · have hg17 := not_false hg18
      have hp17 := inR_true.1 hg17
      refine WL_qg rfl rfl hg18 rfl (ev_move rfl) ?_
      refine WL_qg rfl rfl hg18 rfl (ev_move rfl) ?_
      refine WL_qg rfl rfl hg18 rfl (ev_slice_hi Try.underlying23 sz3 rfl rfl (by omega) (by omega)) ?_
      refine WL_qg rfl rfl hg18 rfl (ev_move rfl) ?_
      refine WL_mg rfl rfl hg18 rfl (ev_call rfl (l1Has_spec _ _ (f.take i) _ _ (by simp; omega) (hf.take i) (by simp; omega))) ?_
      rintro _ w24 ⟨b24, rfl, hb24, hE24⟩
      have hz24 := hE24.size
      replace hE := hE.trans hE24
      replace hRL0 := hRL0.trans hE24
      replace hf := hf.ext hE24
      refine WL_q rfl (ev_pick_f rfl hg18 rfl) ?_
      refine WL_nil ?_
      refine thenE_n ?_
      refine W_cond rfl (fun hg24 => ?_) (fun hg24 => ?_)
      · have hp24 := hb24.1 hg24
        refine W_seq ?_
        refine W_region ?_
        refine WL_q rfl (ev_assign rfl) ?_
        refine WL_nil ?_
        refine thenE_n ?_
        refine W_ret ?_
        refine blockE_r ?_
        refine thenE_r ?_
        refine thenE_r ?_
        refine blockE_r ?_
        refine thenE_r ?_
        refine ret1 rfl rfl ?_
        first | (exact ⟨false, rfl, ffI fun hk => hp17 (hk.2.1 _ (List.getElem_mem hlt)), hE⟩) | (exact ⟨false, rfl, ffI fun hk => take_nodup hk.2.2 hlt hp24, hE⟩) | (exact ⟨_, rfl, ⟨fun ho => perm_of (of_decide_eq_true ho) fun j h1 h2 => hJ j (by omega) h2, fun hk => decide_eq_true hk.1⟩, hE⟩)
      · have hp24 := ttN hb24 hg24
        refine W_skip ?_
        refine blockE_n ?_
        refine thenE_n ?_
        refine W_region ?_
        refine WL_q rfl (ev_add rfl rfl (by omega)) ?_
        refine WL_q rfl (ev_move rfl) ?_
        refine WL_nil ?_
        refine thenE_n ?_
        exact ⟨i + 1, (Subs.c rfl (Subs.c rfl (Subs.c rfl (Subs.c rfl Subs.n)))), (Subs.c (lkI rfl (by omega)) Subs.n), ⟨hRL0, ⟨by omega, dsucc (P := fun j h2 => (0 ≤ f[j] ∧ f[j] ≤ (n : Int) - 1) ∧ f[j] ∉ f.take j) hJ hlt ⟨hp17, hp24⟩⟩⟩, by first | omega | (dsimp only; omega)⟩
  · have hp10 := of_decide_eq_false hg10
    refine W_exit ?_
    refine thenE_x ?_
    refine thenE_x ?_
    refine blockE_hit ?_
    refine thenE_n ?_
    refine W_seq ?_
    refine W_region ?_
    refine WL_q rfl (ev_move rfl) ?_
    refine WL_q rfl (ev_len Try.underlying23 rfl) ?_
    refine WL_q rfl (ev_move rfl) ?_
    refine WL_q rfl (ev_eql rfl rfl) ?_
    refine WL_q rfl (ev_assign rfl) ?_
    refine WL_nil ?_
    refine thenE_n ?_
    refine W_ret ?_
    refine ret1 rfl rfl ?_
    first | (exact ⟨false, rfl, ffI fun hk => hp17 (hk.2.1 _ (List.getElem_mem hlt)), hE⟩) | (exact ⟨false, rfl, ffI fun hk => take_nodup hk.2.2 hlt hp24, hE⟩) | (exact ⟨_, rfl, ⟨fun ho => perm_of (of_decide_eq_true ho) fun j h1 h2 => hJ j (by omega) h2, fun hk => decide_eq_true hk.1⟩, hE⟩)

set_option maxRecDepth 100000 in
theorem isPermutation_spec {lo hi : Nat} (a : Option Addr) (c : Nat) (f : List Int) (n : Nat) (w : World) (hf : Ints lo hi w a c f) (hhi : hi ≤ w.heap.size) (hm : f.length ≤ 1048576) (hn : n ≤ 1048576) :
    Fn Try.prog 64 #[.slice a f.length c, VI (n : Int)] w (fun v w' => ∃ b, v = VB b ∧ (b = true ↔ IsPerm f n) ∧ Ext w w') := by
  have hE := Ext.refl w
  refine Fn_of Try.func64 rfl rfl (by kernel_rfl) rfl ?_
  refine W_seq ?_
  refine W_region ?_
  refine WL_q rfl (ev_assign rfl) ?_
  refine WL_nil ?_
  refine thenE_n ?_
  refine W_seq ?_
  refine W_seq ?_
  refine W_region ?_
  refine WL_q rfl (ev_move rfl) ?_
  refine WL_q rfl (ev_len Try.underlying23 rfl) ?_
  refine WL_q rfl (ev_move rfl) ?_
  refine WL_q rfl (ev_neq rfl rfl) ?_
  refine WL_nil ?_
  refine thenE_n ?_
  refine W_cond rfl (fun hg11 => ?_) (fun hg11 => ?_)
  · have hp11 := of_decide_eq_true hg11
    refine W_seq ?_
    refine W_region ?_
    refine WL_q rfl (ev_assign rfl) ?_
    refine WL_nil ?_
    refine thenE_n ?_
    refine W_ret ?_
    refine thenE_r ?_
    refine ret1 rfl rfl ?_
    first | (exact ⟨false, rfl, ffI fun hk => hp11 hk.1, hE⟩) | (exact ⟨false, rfl, ffI fun hk => hp23 (hk.2.1 _ (List.getElem_mem hlt)), hE⟩) | (exact ⟨false, rfl, ffI fun hk => take_nodup hk.2.2 hlt (by have h8 := (hS.on f[i].toNat (by omega)).1 hg29; rw [Int.toNat_of_nonneg hr1] at h8; exact h8), hE⟩) | (exact ⟨_, rfl, ttI (perm_of (by omega) fun j h1 h2 => hJ j (by omega) h2), hE⟩)
  · have hp11 := of_decide_eq_false hg11
    refine W_skip ?_
    refine thenE_n ?_
    refine W_seq ?_
    refine W_region ?_
    refine WL_q rfl (ev_move rfl) ?_
    refine WL_m rfl (ev_makeN Try.underlying117 el4 rfl rfl rfl (by omega) (by omega)) ?_
    rintro _ w13 ⟨rfl, hN13⟩
    have hz13 := hN13.size
    replace hE := hE.trans hN13.ext
    replace hf := hf.ext hN13.ext
    have hB13 := hN13.blk
    replace hB13 := boolmk hB13
    refine WL_q rfl (ev_assign rfl) ?_
    refine WL_nil ?_
    refine thenE_n ?_
    refine W_seq ?_
    refine W_seq ?_
    refine W_region ?_
    refine WL_q rfl (ev_move rfl) ?_
    refine WL_q rfl (ev_len Try.underlying23 rfl) ?_
    refine WL_q rfl (ev_move rfl) ?_
    refine WL_nil ?_
    refine thenE_n ?_
    refine W_block ?_
    refine W_loopC (G := Nat × List Bool) [(1, _), (5, _), (14, _), (15, _)] ((Subs.c rfl (Subs.c rfl (Subs.c rfl (Subs.c rfl Subs.n))))) (fun ⟨i, bs⟩ => [(16, VI (i : Int))]) (fun ⟨i, bs⟩ w' => KX (w.heap.size) w13 w' ∧ i ≤ f.length ∧ Blk w' w.heap.size 4 (bs.map VB) ∧ SeenB f i n bs ∧ ∀ j (_h : j < i) (h2 : j < f.length), (0 ≤ f[j] ∧ f[j] ≤ (n : Int) - 1) ∧ f[j] ∉ f.take j) (fun g => f.length - g.1) (0, List.replicate n false) ((Subs.c (lkI rfl (by omega)) Subs.n)) (⟨KX.refl _ _, ⟨by omega, hB13, SeenB.zero f n, fun j h => by omega⟩⟩) ?_
    rintro ⟨i, bs⟩ wL0 ⟨hRL0, hi', hBs, hS, hJ⟩
    have hzL0 := hRL0.size
    replace hf := hf.kx hRL0 (by omega)
    replace hE := hE.kx hRL0 (by omega)
    have hbl := hS.len
    refine W_seq ?_
    refine W_region ?_
    refine WL_q rfl (ev_lss rfl rfl) ?_
    refine WL_nil ?_
    refine thenE_n ?_
    refine W_seq ?_
    refine W_cond rfl (fun hg17 => ?_) (fun hg17 => ?_)
    · have hp17 := of_decide_eq_true hg17
      refine W_skip ?_
      refine thenE_n ?_
      refine W_seq ?_
      refine W_block ?_
      refine W_seq ?_
      refine W_region ?_
      have hlt : i < f.length := by omega
      refine WL_q rfl (ev_indexAddr Try.underlying23 sz3 rfl rfl (hf.isSome (by omega)) (by omega) (by omega)) ?_
      refine WL_q rfl (ev_load one3 rfl (hf.cell (i := i) (by omega))) ?_
      refine WL_q rfl (ev_assign rfl) ?_
      refine WL_nil ?_
      refine thenE_n ?_
      refine W_seq ?_
      refine W_seq ?_
      refine W_region ?_
      refine WL_q rfl (ev_move rfl) ?_
      refine WL_q rfl (ev_move rfl) ?_
      refine WL_q rfl (ev_sub rfl rfl (by omega)) ?_
      refine WL_m rfl (ev_call rfl (within_spec _ _ _ _)) ?_
      rintro _ _ ⟨rfl, rfl⟩
      refine WL_q rfl (ev_not rfl) ?_
      refine WL_q rfl (ev_move rfl) ?_
      refine WL_splitv (t := 25) rfl (fun hg24 => ?_) (fun hg24 => ?_)
      · have hg23 := not_true hg24
        have hp23 := inR_false.1 hg23
        refine WL_no rfl rfl hg24 rfl ?_
        refine WL_no rfl rfl hg24 rfl ?_
        refine WL_no rfl rfl hg24 rfl ?_
        refine WL_no rfl rfl hg24 rfl ?_
        refine WL_q rfl (ev_pick_t rfl hg24 rfl) ?_
        refine WL_nil ?_
        refine thenE_n ?_
        refine W_cond_t rfl ?_
        refine W_seq ?_
        refine W_region ?_
        refine WL_q rfl (ev_assign rfl) ?_
        refine WL_nil ?_
        refine thenE_n ?_
        refine W_ret ?_
        refine thenE_r ?_
        refine blockE_r ?_
        refine thenE_r ?_
        refine thenE_r ?_
        refine blockE_r ?_
        refine thenE_r ?_
        refine ret1 rfl rfl ?_
        first | (exact ⟨false, rfl, ffI fun hk => hp11 hk.1, hE⟩) | (exact ⟨false, rfl, ffI fun hk => hp23 (hk.2.1 _ (List.getElem_mem hlt)), hE⟩) | (exact ⟨false, rfl, ffI fun hk => take_nodup hk.2.2 hlt (by have h8 := (hS.on f[i].toNat (by omega)).1 hg29; rw [Int.toNat_of_nonneg hr1] at h8; exact h8), hE⟩) | (exact ⟨_, rfl, ttI (perm_of (by omega) fun j h1 h2 => hJ j (by omega) h2), hE⟩)
      · have hg23 := not_false hg24
        have hp23 := inR_true.1 hg23
        refine WL_qg rfl rfl hg24 rfl (ev_move rfl) ?_
        refine WL_qg rfl rfl hg24 rfl (ev_move rfl) ?_
        have hr1 := hp23.1
        have hr2 := hp23.2
        refine WL_qg rfl rfl hg24 rfl (ev_indexAddr Try.underlying117 sz4 rfl rfl rfl (by omega) (by omega)) ?_
        refine WL_qg rfl rfl hg24 rfl (ev_load one4 rfl (bcell hBs (i := f[i].toNat) (by omega) (by omega))) ?_
        refine WL_q rfl (ev_pick_f rfl hg24 rfl) ?_
        refine WL_nil ?_
        refine thenE_n ?_
        refine W_cond rfl (fun hg29 => ?_) (fun hg29 => ?_)
        · refine W_seq ?_
          refine W_region ?_
          refine WL_q rfl (ev_assign rfl) ?_
          refine WL_nil ?_
          refine thenE_n ?_
          refine W_ret ?_
          refine thenE_r ?_
          refine blockE_r ?_
          refine thenE_r ?_
          refine thenE_r ?_
          refine blockE_r ?_
          refine thenE_r ?_
          refine ret1 rfl rfl ?_
          first | (exact ⟨false, rfl, ffI fun hk => hp11 hk.1, hE⟩) | (exact ⟨false, rfl, ffI fun hk => hp23 (hk.2.1 _ (List.getElem_mem hlt)), hE⟩) | (exact ⟨false, rfl, ffI fun hk => take_nodup hk.2.2 hlt (by have h8 := (hS.on f[i].toNat (by omega)).1 hg29; rw [Int.toNat_of_nonneg hr1] at h8; exact h8), hE⟩) | (exact ⟨_, rfl, ttI (perm_of (by omega) fun j h1 h2 => hJ j (by omega) h2), hE⟩)
        · refine W_skip ?_
          refine thenE_n ?_
          refine W_region ?_
          refine WL_q rfl (ev_move rfl) ?_
          refine WL_q rfl (ev_move rfl) ?_
          refine WL_q rfl (ev_indexAddr Try.underlying117 sz4 rfl rfl rfl (by omega) (by omega)) ?_
          refine WL_s (ev_store sz4 rfl rfl rfl hBs (by simp; omega)) ?_
          rintro _ w9_3 hS9_3
          have hz9_3 := hS9_3.size
          replace hE := hE.sto hS9_3 (by omega)
          replace hRL0 := hRL0.sto hS9_3 (by omega)
          replace hf := hf.sto hS9_3 (by omega)
          replace hBs := hS9_3.blk
          replace hBs := bset (i := f[i].toNat) (by omega) hBs
          refine WL_nil ?_
          refine blockE_n ?_
          refine thenE_n ?_
          refine W_region ?_
          refine WL_q rfl (ev_add rfl rfl (by omega)) ?_
          refine WL_q rfl (ev_move rfl) ?_
          refine WL_nil ?_
          refine thenE_n ?_
          exact ⟨(i + 1, bs.set f[i].toNat true), (Subs.c rfl (Subs.c rfl (Subs.c rfl (Subs.c rfl Subs.n)))), (Subs.c (lkI rfl (by omega)) Subs.n), ⟨hRL0, ⟨by omega, hBs, hS.step hlt hp23.1 (by omega), dsucc (P := fun j h2 => (0 ≤ f[j] ∧ f[j] ≤ (n : Int) - 1) ∧ f[j] ∉ f.take j) hJ hlt ⟨hp23, fun hm9 => by have h8 := (hS.on f[i].toNat (by omega)).2 (by rw [Int.toNat_of_nonneg hp23.1]; exact hm9); rw [h8] at hg29; cases hg29⟩⟩⟩, by first | omega | (dsimp only; omega)⟩
    · have hp17 := of_decide_eq_false hg17
      refine W_exit ?_
      refine thenE_x ?_
      refine thenE_x ?_
      refine blockE_hit ?_
      refine thenE_n ?_
      refine W_seq ?_
      refine W_region ?_
      refine WL_q rfl (ev_assign rfl) ?_
      refine WL_nil ?_
      refine thenE_n ?_
      refine W_ret ?_
      refine ret1 rfl rfl ?_
      first | (exact ⟨false, rfl, ffI fun hk => hp11 hk.1, hE⟩) | (exact ⟨false, rfl, ffI fun hk => hp23 (hk.2.1 _ (List.getElem_mem hlt)), hE⟩) | (exact ⟨false, rfl, ffI fun hk => take_nodup hk.2.2 hlt (by have h8 := (hS.on f[i].toNat (by omega)).1 hg29; rw [Int.toNat_of_nonneg hr1] at h8; exact h8), hE⟩) | (exact ⟨_, rfl, ttI (perm_of (by omega) fun j h1 h2 => hJ j (by omega) h2), hE⟩)

set_option maxHeartbeats 4000000 in
set_option maxRecDepth 100000 in
theorem isIs_spec {loA hiA : Nat} (nA : NA) (A : Net) {loB hiB : Nat} (nB : NA) (B : Net) {lof hif : Nat} (af : Option Addr) (cf : Nat) (f : List Int) (w : World) (hA : IsNet loA hiA w nA A) (hhiA : hiA ≤ w.heap.size) (hnA : totN A ≤ 1048576) (hB : IsNet loB hiB w nB B) (hhiB : hiB ≤ w.heap.size) (hnB : totN B ≤ 1048576) (hf : Ints lof hif w af cf f) (hhif : hif ≤ w.heap.size) (hnf : f.length ≤ 1048576) (hkA : NOk A) (hkB : NOk B) :
    Fn Try.prog 61 #[netV nA A, netV nB B, .slice af f.length cf] w (fun v w' => ∃ b, v = VB b ∧ (b = true ↔ IsIso A B f) ∧ Ext w w') := by
  have hqA := totL_len A.ends
  have hmA : totL A.ends + A.ids.length + A.inputs.length ≤ 1048576 := hnA
  have hqB := totL_len B.ends
  have hmB : totL B.ends + B.ids.length + B.inputs.length ≤ 1048576 := hnB
  have hinA := hkA.inLen
  have hinB := hkB.inLen
  have hidA := hkA.idl
  have hidB := hkB.idl
  have hE := Ext.refl w
  refine Fn_of Try.func61 rfl rfl (by kernel_rfl) rfl ?_
  refine W_seq ?_
  refine W_region ?_
  refine WL_m rfl (ev_box rfl) ?_
  rintro _ w3 ⟨rfl, hN3⟩
  have hz3 := hN3.size
  replace hE := hE.trans hN3.ext
  replace hA := hA.ext hN3.ext
  replace hB := hB.ext hN3.ext
  replace hf := hf.ext hN3.ext
  have hB3 : Blk w3 _ _ [_, _, _] := hN3.blk
  refine WL_m rfl (ev_box rfl) ?_
  rintro _ w4 ⟨rfl, hN4⟩
  have hz4 := hN4.size
  replace hE := hE.trans hN4.ext
  replace hA := hA.ext hN4.ext
  replace hB := hB.ext hN4.ext
  replace hf := hf.ext hN4.ext
  replace hB3 := hB3.ext hN4.ext
  have hB4 : Blk w4 _ _ [_, _, _] := hN4.blk
  refine WL_q rfl (ev_assign rfl) ?_
  refine WL_nil ?_
  refine thenE_n ?_
  refine W_seq ?_
  refine W_seq ?_
  refine W_region ?_
  refine WL_q rfl (ev_fieldAddr fo41_0 rfl) ?_
  refine WL_q rfl (ev_load one39 rfl (hB3.cell rfl)) ?_
  refine WL_q rfl (ev_len Try.underlying39 rfl) ?_
  refine WL_q rfl (ev_fieldAddr fo41_0 rfl) ?_
  refine WL_q rfl (ev_load one39 rfl (hB4.cell rfl)) ?_
  refine WL_q rfl (ev_len Try.underlying39 rfl) ?_
  refine WL_q rfl (ev_neq rfl rfl) ?_
  refine WL_q rfl (ev_move rfl) ?_
  refine WL_splitv (t := 18) rfl (fun hg17 => ?_) (fun hg17 => ?_)
  · have hp17 := of_decide_eq_true hg17
    refine WL_no rfl rfl hg17 rfl ?_
    refine WL_no rfl rfl hg17 rfl ?_
    refine WL_no rfl rfl hg17 rfl ?_
    refine WL_no rfl rfl hg17 rfl ?_
    refine WL_no rfl rfl hg17 rfl ?_
    refine WL_no rfl rfl hg17 rfl ?_
    refine WL_no rfl rfl hg17 rfl ?_
    refine WL_q rfl (ev_pick_t rfl hg17 rfl) ?_
    refine WL_q rfl (ev_move rfl) ?_
    refine WL_no rfl rfl rfl rfl ?_
    refine WL_no rfl rfl rfl rfl ?_
    refine WL_no rfl rfl rfl rfl ?_
    refine WL_no rfl rfl rfl rfl ?_
    refine WL_no rfl rfl rfl rfl ?_
    refine WL_no rfl rfl rfl rfl ?_
    refine WL_q rfl (ev_pick_t rfl rfl rfl) ?_
    refine WL_nil ?_
    refine thenE_n ?_
    refine W_cond_t rfl ?_
    refine W_seq ?_
    refine W_region ?_
    refine WL_q rfl (ev_assign rfl) ?_
    refine WL_nil ?_
    refine thenE_n ?_
    refine W_ret ?_
    refine thenE_r ?_
    refine ret1 rfl rfl ?_
    first | (refine ⟨false, rfl, ffI fun hk => ?_, hE⟩; have := hk.nodes; omega) | (refine ⟨false, rfl, ffI fun hk => ?_, hE⟩; have := hk.ids; omega) | (exact ⟨false, rfl, ffI fun hk => hp32 hk.perm, hE⟩) | (refine ⟨false, rfl, ffI fun hk => ?_, hE⟩; have := hk.pm.rowlen hla hlt (by omega); omega) | (refine ⟨false, rfl, ffI fun hk => ?_, hE⟩; have := hk.pm.inp hla hlt (by omega) (by omega); omega) | (refine ⟨false, rfl, ffI fun hk => ?_, hE⟩; have := (sameId_at hlt (h1 := by omega) (h2 := by omega)).1 (hk.same i hlt); omega) | (exact ⟨false, rfl, ffI fun hk => (hk.pm.mend hla hlt2 hlt).no hp114, hE⟩) | (exact ⟨true, rfl, ttI ⟨by omega, by omega, hp32, ⟨by omega, (by rw [show (B.ends.length : Int) = A.ends.length by omega]; exact perm_rng hp32), fun v h2 => (hJ v (by omega) h2).1⟩, fun v h2 => (hJ v (by omega) (by omega)).2⟩, hE⟩)
  · have hp17 := of_decide_eq_false hg17
    refine WL_qg rfl rfl hg17 rfl (ev_fieldAddr fo41_1 rfl) ?_
    refine WL_qg rfl rfl hg17 rfl (ev_load one23 rfl (hB3.cell rfl)) ?_
    refine WL_qg rfl rfl hg17 rfl (ev_len Try.underlying23 rfl) ?_
    refine WL_qg rfl rfl hg17 rfl (ev_fieldAddr fo41_1 rfl) ?_
    refine WL_qg rfl rfl hg17 rfl (ev_load one23 rfl (hB4.cell rfl)) ?_
    refine WL_qg rfl rfl hg17 rfl (ev_len Try.underlying23 rfl) ?_
    refine WL_qg rfl rfl hg17 rfl (ev_neq rfl rfl) ?_
    refine WL_q rfl (ev_pick_f rfl hg17 rfl) ?_
    refine WL_q rfl (ev_move rfl) ?_
    refine WL_splitv (t := 27) rfl (fun hg25 => ?_) (fun hg25 => ?_)
    · have hp25 := of_decide_eq_true hg25
      refine WL_no rfl rfl hg25 rfl ?_
      refine WL_no rfl rfl hg25 rfl ?_
      refine WL_no rfl rfl hg25 rfl ?_
      refine WL_no rfl rfl hg25 rfl ?_
      refine WL_no rfl rfl hg25 rfl ?_
      refine WL_no rfl rfl hg25 rfl ?_
      refine WL_q rfl (ev_pick_t rfl hg25 rfl) ?_
      refine WL_nil ?_
      refine thenE_n ?_
      refine W_cond_t rfl ?_
      refine W_seq ?_
      refine W_region ?_
      refine WL_q rfl (ev_assign rfl) ?_
      refine WL_nil ?_
      refine thenE_n ?_
      refine W_ret ?_
      refine thenE_r ?_
      refine ret1 rfl rfl ?_
      first | (refine ⟨false, rfl, ffI fun hk => ?_, hE⟩; have := hk.nodes; omega) | (refine ⟨false, rfl, ffI fun hk => ?_, hE⟩; have := hk.ids; omega) | (exact ⟨false, rfl, ffI fun hk => hp32 hk.perm, hE⟩) | (refine ⟨false, rfl, ffI fun hk => ?_, hE⟩; have := hk.pm.rowlen hla hlt (by omega); omega) | (refine ⟨false, rfl, ffI fun hk => ?_, hE⟩; have := hk.pm.inp hla hlt (by omega) (by omega); omega) | (refine ⟨false, rfl, ffI fun hk => ?_, hE⟩; have := (sameId_at hlt (h1 := by omega) (h2 := by omega)).1 (hk.same i hlt); omega) | (exact ⟨false, rfl, ffI fun hk => (hk.pm.mend hla hlt2 hlt).no hp114, hE⟩) | (exact ⟨true, rfl, ttI ⟨by omega, by omega, hp32, ⟨by omega, (by rw [show (B.ends.length : Int) = A.ends.length by omega]; exact perm_rng hp32), fun v h2 => (hJ v (by omega) h2).1⟩, fun v h2 => (hJ v (by omega) (by omega)).2⟩, hE⟩)
    · have hp25 := of_decide_eq_false hg25
      refine WL_qg rfl rfl hg25 rfl (ev_move rfl) ?_
      refine WL_qg rfl rfl hg25 rfl (ev_fieldAddr fo41_0 rfl) ?_
      refine WL_qg rfl rfl hg25 rfl (ev_load one39 rfl (hB3.cell rfl)) ?_
      refine WL_qg rfl rfl hg25 rfl (ev_len Try.underlying39 rfl) ?_
      refine WL_mg rfl rfl hg25 rfl (ev_call rfl (nePerm_spec _ _ f _ _ hf (by omega) (by omega))) ?_
      rintro _ w32 ⟨b32, rfl, hb32, hE32⟩
      have hz32 := hE32.size
      replace hE := hE.trans hE32
      replace hA := hA.ext hE32
      replace hB := hB.ext hE32
      replace hf := hf.ext hE32
      replace hB3 := hB3.ext hE32
      replace hB4 := hB4.ext hE32
      refine WL_qg rfl rfl hg25 rfl (ev_not rfl) ?_
      refine WL_q rfl (ev_pick_f rfl hg25 rfl) ?_
      refine WL_nil ?_
      refine thenE_n ?_
      refine W_cond rfl (fun hg33 => ?_) (fun hg33 => ?_)
      · have hg32 := not_true hg33
        have hp32 := ttN hb32 hg32
        refine W_seq ?_
        refine W_region ?_
        refine WL_q rfl (ev_assign rfl) ?_
        refine WL_nil ?_
        refine thenE_n ?_
        refine W_ret ?_
        refine thenE_r ?_
        refine ret1 rfl rfl ?_
        first | (refine ⟨false, rfl, ffI fun hk => ?_, hE⟩; have := hk.nodes; omega) | (refine ⟨false, rfl, ffI fun hk => ?_, hE⟩; have := hk.ids; omega) | (exact ⟨false, rfl, ffI fun hk => hp32 hk.perm, hE⟩) | (refine ⟨false, rfl, ffI fun hk => ?_, hE⟩; have := hk.pm.rowlen hla hlt (by omega); omega) | (refine ⟨false, rfl, ffI fun hk => ?_, hE⟩; have := hk.pm.inp hla hlt (by omega) (by omega); omega) | (refine ⟨false, rfl, ffI fun hk => ?_, hE⟩; have := (sameId_at hlt (h1 := by omega) (h2 := by omega)).1 (hk.same i hlt); omega) | (exact ⟨false, rfl, ffI fun hk => (hk.pm.mend hla hlt2 hlt).no hp114, hE⟩) | (exact ⟨true, rfl, ttI ⟨by omega, by omega, hp32, ⟨by omega, (by rw [show (B.ends.length : Int) = A.ends.length by omega]; exact perm_rng hp32), fun v h2 => (hJ v (by omega) h2).1⟩, fun v h2 => (hJ v (by omega) (by omega)).2⟩, hE⟩)
      · have hg32 := not_false hg33
        have hp32 := hb32.1 hg32
        refine W_skip ?_
        refine thenE_n ?_
        refine W_seq ?_
        refine W_seq ?_
        refine W_region ?_
        refine WL_q rfl (ev_move rfl) ?_
        refine WL_q rfl (ev_len Try.underlying23 rfl) ?_
        refine WL_q rfl (ev_move rfl) ?_
        refine WL_nil ?_
        refine thenE_n ?_
        refine W_block ?_
        have hfl := hp32.1
        refine W_loopC (G := Nat) [(2, _), (3, _), (4, _), (35, _), (36, _)] ((Subs.c rfl (Subs.c rfl (Subs.c rfl (Subs.c rfl (Subs.c rfl Subs.n)))))) (fun i => [(37, VI (i : Int))]) (fun i w' => Ext w32 w' ∧ i ≤ f.length ∧ ∀ j (_h : j < i) (h2 : j < A.ends.length), MRow A B f j A.ends[j] ∧ sameId A B f j) (fun i => f.length - i) 0 ((Subs.c (lkI rfl (by omega)) Subs.n)) (⟨Ext.refl _, ⟨by omega, fun j h => by omega⟩⟩) ?_
        rintro i wL0 ⟨hRL0, hi', hJ⟩
        have hzL0 := hRL0.size
        replace hE := hE.trans hRL0
        replace hA := hA.ext hRL0
        replace hB := hB.ext hRL0
        replace hf := hf.ext hRL0
        replace hB3 := hB3.ext hRL0
        replace hB4 := hB4.ext hRL0
        refine W_seq ?_
        refine W_region ?_
        refine WL_q rfl (ev_lss rfl rfl) ?_
        refine WL_nil ?_
        refine thenE_n ?_
        refine W_seq ?_
        refine W_cond rfl (fun hg38 => ?_) (fun hg38 => ?_)
        · have hp38 := of_decide_eq_true hg38
          refine W_skip ?_
          refine thenE_n ?_
          refine W_seq ?_
          refine W_block ?_
          refine W_seq ?_
          refine W_region ?_
          refine WL_q rfl (ev_move rfl) ?_
          have hlt : i < f.length := by omega
          have hla : i < A.ends.length := by omega
          obtain ⟨hr1, hr2⟩ := hp32.2.1 _ (List.getElem_mem hlt)
          refine WL_q rfl (ev_indexAddr Try.underlying23 sz3 rfl rfl (hf.isSome (by omega)) (by omega) (by omega)) ?_
          refine WL_q rfl (ev_load one3 rfl (hf.cell (i := i) (by omega))) ?_
          refine WL_q rfl (ev_assign rfl) ?_
          refine WL_q rfl (ev_assign rfl) ?_
          refine WL_nil ?_
          refine thenE_n ?_
          refine W_seq ?_
          refine W_seq ?_
          refine W_drawE [(0, true), (1, true), (2, true), (3, true), (4, true), (5, true), (6, true), (7, true), (8, true), (9, true), (10, true), (11, true), (12, true), (13, true), (14, true), (15, true), (16, true), (17, true), (18, true), (19, true), (20, true), (21, true), (22, true), (23, true), (24, true), (25, true), (26, true), (27, true), (28, true), (29, true), (30, true), (31, true), (32, true), (33, true), (34, true), (35, true), (36, true), (37, true), (38, true), (39, true), (40, true), (41, true), (42, true), (43, true), (44, true)] mixed (by kernel_rfl) rfl (by kernel_rfl) ?_
          intro wd6 hEd6 hzd6
          replace hE := hE.trans hEd6
          replace hRL0 := hRL0.trans hEd6
          replace hA := hA.ext hEd6
          replace hB := hB.ext hEd6
          replace hf := hf.ext hEd6
          replace hB3 := hB3.ext hEd6
          replace hB4 := hB4.ext hEd6
          have hDd6 := Ext.refl wd6
          refine PW_q rfl rfl (fun wq hq => ev_fieldAddr fo41_0 rfl) ?_
          refine PW_q rfl rfl (fun wq hq => ev_load one39 rfl (hq.cell (hB3.cell rfl))) ?_
          refine PW_q rfl rfl (fun wq hq => ev_move rfl) ?_
          have hl45 : i < A.ends.length := by omega
          have ht45 := totL_le hl45
          obtain ⟨a45, c45, hc45, hr45⟩ := hA.ends.row hl45
          refine PW_q rfl rfl (fun wq hq => ev_indexAddr Try.underlying39 sz112 rfl rfl (hA.ends.isSome (by omega)) (by omega) (by omega)) ?_
          refine PW_q rfl rfl (fun wq hq => ev_load one112 rfl (hq.cell (hc45))) ?_
          refine PW_q rfl rfl (fun wq hq => ev_len Try.underlying112 rfl) ?_
          refine PW_q rfl rfl (fun wq hq => ev_fieldAddr fo41_0 rfl) ?_
          refine PW_q rfl rfl (fun wq hq => ev_load one39 rfl (hq.cell (hB4.cell rfl))) ?_
          refine PW_q rfl rfl (fun wq hq => ev_move rfl) ?_
          have hl51 : f[i].toNat < B.ends.length := by omega
          have ht51 := totL_le hl51
          obtain ⟨a51, c51, hc51, hr51⟩ := hB.ends.row hl51
          refine PW_q rfl rfl (fun wq hq => ev_indexAddr Try.underlying39 sz112 rfl rfl (hB.ends.isSome (by omega)) (by omega) (by omega)) ?_
          refine PW_q rfl rfl (fun wq hq => ev_load one112 rfl (hq.cell (hc51))) ?_
          refine PW_q rfl rfl (fun wq hq => ev_len Try.underlying112 rfl) ?_
          refine PW_q rfl rfl (fun wq hq => ev_neq rfl rfl) ?_
          refine PW_q rfl rfl (fun wq hq => ev_move rfl) ?_
          refine PW_splitv (t := 55) rfl (fun hg54 => ?_) (fun hg54 => ?_)
          · have hp54 := of_decide_eq_true hg54
            refine PW_no rfl rfl rfl hg54 rfl ?_
            refine PW_no rfl rfl rfl hg54 rfl ?_
            refine PW_no rfl rfl rfl hg54 rfl ?_
            refine PW_no rfl rfl rfl hg54 rfl ?_
            refine PW_no rfl rfl rfl hg54 rfl ?_
            refine PW_no rfl rfl rfl hg54 rfl ?_
            refine PW_no rfl rfl rfl hg54 rfl ?_
            refine PW_no rfl rfl rfl hg54 rfl ?_
            refine PW_no rfl rfl rfl hg54 rfl ?_
            refine PW_no rfl rfl rfl hg54 rfl ?_
            refine PW_no rfl rfl rfl hg54 rfl ?_
            refine PW_q rfl rfl (fun wq hq => ev_pick_t rfl hg54 rfl) ?_
            refine PW_q rfl rfl (fun wq hq => ev_move rfl) ?_
            refine PW_no rfl rfl rfl rfl rfl ?_
            refine PW_no rfl rfl rfl rfl rfl ?_
            refine PW_no rfl rfl rfl rfl rfl ?_
            refine PW_no rfl rfl rfl rfl rfl ?_
            refine PW_no rfl rfl rfl rfl rfl ?_
            refine PW_nou rfl rfl rfl rfl ?_
            refine PW_nou rfl rfl rfl rfl ?_
            refine PW_nou rfl rfl rfl rfl ?_
            refine PW_nou rfl rfl rfl rfl ?_
            refine PW_nou rfl rfl rfl rfl ?_
            refine PW_nou rfl rfl rfl rfl ?_
            refine PW_nou rfl rfl rfl rfl ?_
            refine PW_nou rfl rfl rfl rfl ?_
            refine PW_nou rfl rfl rfl rfl ?_
            refine PW_nou rfl rfl rfl rfl ?_
            refine PW_nou rfl rfl rfl rfl ?_
            refine PW_no rfl rfl rfl rfl rfl ?_
            refine PW_q rfl rfl (fun wq hq => ev_pick_t rfl rfl rfl) ?_
            refine PW_nil ?_
            refine thenE_n ?_
            refine W_cond_t rfl ?_
            refine W_seq ?_
            refine W_region ?_
            refine WL_q rfl (ev_assign rfl) ?_
            refine WL_nil ?_
            refine thenE_n ?_
            refine W_ret ?_
            refine thenE_r ?_
            refine blockE_r ?_
            refine thenE_r ?_
            refine thenE_r ?_
            refine blockE_r ?_
            refine thenE_r ?_
            refine ret1 rfl rfl ?_
            first | (refine ⟨false, rfl, ffI fun hk => ?_, hE⟩; have := hk.nodes; omega) | (refine ⟨false, rfl, ffI fun hk => ?_, hE⟩; have := hk.ids; omega) | (exact ⟨false, rfl, ffI fun hk => hp32 hk.perm, hE⟩) | (refine ⟨false, rfl, ffI fun hk => ?_, hE⟩; have := hk.pm.rowlen hla hlt (by omega); omega) | (refine ⟨false, rfl, ffI fun hk => ?_, hE⟩; have := hk.pm.inp hla hlt (by omega) (by omega); omega) | (refine ⟨false, rfl, ffI fun hk => ?_, hE⟩; have := (sameId_at hlt (h1 := by omega) (h2 := by omega)).1 (hk.same i hlt); omega) | (exact ⟨false, rfl, ffI fun hk => (hk.pm.mend hla hlt2 hlt).no hp114, hE⟩) | (exact ⟨true, rfl, ttI ⟨by omega, by omega, hp32, ⟨by omega, (by rw [show (B.ends.length : Int) = A.ends.length by omega]; exact perm_rng hp32), fun v h2 => (hJ v (by omega) h2).1⟩, fun v h2 => (hJ v (by omega) (by omega)).2⟩, hE⟩)
          · have hp54 := of_decide_eq_false hg54
            refine PW_qg rfl rfl rfl hg54 rfl (fun wq hq => ev_fieldAddr fo41_2 rfl) ?_
            refine PW_qg rfl rfl rfl hg54 rfl (fun wq hq => ev_load one23 rfl (hq.cell (hB3.cell rfl))) ?_
            refine PW_qg rfl rfl rfl hg54 rfl (fun wq hq => ev_move rfl) ?_
            refine PW_qg rfl rfl rfl hg54 rfl (fun wq hq => ev_indexAddr Try.underlying23 sz3 rfl rfl (hA.inputs.isSome (by omega)) (by omega) (by omega)) ?_
            have hc60 := hA.inputs.cell (i := i) (by omega)
            refine PW_qg rfl rfl rfl hg54 rfl (fun wq hq => ev_load one3 rfl (hq.cell (hc60))) ?_
            refine PW_qg rfl rfl rfl hg54 rfl (fun wq hq => ev_fieldAddr fo41_2 rfl) ?_
            refine PW_qg rfl rfl rfl hg54 rfl (fun wq hq => ev_load one23 rfl (hq.cell (hB4.cell rfl))) ?_
            refine PW_qg rfl rfl rfl hg54 rfl (fun wq hq => ev_move rfl) ?_
            refine PW_qg rfl rfl rfl hg54 rfl (fun wq hq => ev_indexAddr Try.underlying23 sz3 rfl rfl (hB.inputs.isSome (by omega)) (by omega) (by omega)) ?_
            have hc65 := hB.inputs.cell (i := f[i].toNat) (by omega)
            refine PW_qg rfl rfl rfl hg54 rfl (fun wq hq => ev_load one3 rfl (hq.cell (hc65))) ?_
            refine PW_qg rfl rfl rfl hg54 rfl (fun wq hq => ev_neq rfl rfl) ?_
            refine PW_q rfl rfl (fun wq hq => ev_pick_f rfl hg54 rfl) ?_
            refine PW_q rfl rfl (fun wq hq => ev_move rfl) ?_
            refine PW_splitv (t := 68) rfl (fun hg66 => ?_) (fun hg66 => ?_)
            · have hp66 := of_decide_eq_true hg66
              refine PW_no rfl rfl rfl hg66 rfl ?_
              refine PW_no rfl rfl rfl hg66 rfl ?_
              refine PW_no rfl rfl rfl hg66 rfl ?_
              refine PW_no rfl rfl rfl hg66 rfl ?_
              refine PW_no rfl rfl rfl hg66 rfl ?_
              refine PW_nou rfl rfl rfl rfl ?_
              refine PW_nou rfl rfl rfl rfl ?_
              refine PW_nou rfl rfl rfl rfl ?_
              refine PW_nou rfl rfl rfl rfl ?_
              refine PW_nou rfl rfl rfl rfl ?_
              refine PW_nou rfl rfl rfl rfl ?_
              refine PW_nou rfl rfl rfl rfl ?_
              refine PW_nou rfl rfl rfl rfl ?_
              refine PW_nou rfl rfl rfl rfl ?_
              refine PW_nou rfl rfl rfl rfl ?_
              refine PW_nou rfl rfl rfl rfl ?_
              refine PW_no rfl rfl rfl hg66 rfl ?_
              refine PW_q rfl rfl (fun wq hq => ev_pick_t rfl hg66 rfl) ?_
              refine PW_nil ?_
              refine thenE_n ?_
              refine W_cond_t rfl ?_
              refine W_seq ?_
              refine W_region ?_
              refine WL_q rfl (ev_assign rfl) ?_
              refine WL_nil ?_
              refine thenE_n ?_
              refine W_ret ?_
              refine thenE_r ?_
              refine blockE_r ?_
              refine thenE_r ?_
              refine thenE_r ?_
              refine blockE_r ?_
              refine thenE_r ?_
              refine ret1 rfl rfl ?_
              first | (refine ⟨false, rfl, ffI fun hk => ?_, hE⟩; have := hk.nodes; omega) | (refine ⟨false, rfl, ffI fun hk => ?_, hE⟩; have := hk.ids; omega) | (exact ⟨false, rfl, ffI fun hk => hp32 hk.perm, hE⟩) | (refine ⟨false, rfl, ffI fun hk => ?_, hE⟩; have := hk.pm.rowlen hla hlt (by omega); omega) | (refine ⟨false, rfl, ffI fun hk => ?_, hE⟩; have := hk.pm.inp hla hlt (by omega) (by omega); omega) | (refine ⟨false, rfl, ffI fun hk => ?_, hE⟩; have := (sameId_at hlt (h1 := by omega) (h2 := by omega)).1 (hk.same i hlt); omega) | (exact ⟨false, rfl, ffI fun hk => (hk.pm.mend hla hlt2 hlt).no hp114, hE⟩) | (exact ⟨true, rfl, ttI ⟨by omega, by omega, hp32, ⟨by omega, (by rw [show (B.ends.length : Int) = A.ends.length by omega]; exact perm_rng hp32), fun v h2 => (hJ v (by omega) h2).1⟩, fun v h2 => (hJ v (by omega) (by omega)).2⟩, hE⟩)
            · have hp66 := of_decide_eq_false hg66
              refine PW_qg rfl rfl rfl hg66 rfl (fun wq hq => ev_fieldAddr fo41_1 rfl) ?_
              refine PW_qg rfl rfl rfl hg66 rfl (fun wq hq => ev_load one23 rfl (hq.cell (hB3.cell rfl))) ?_
              refine PW_qg rfl rfl rfl hg66 rfl (fun wq hq => ev_len Try.underlying23 rfl) ?_
              refine PW_qg rfl rfl rfl hg66 rfl (fun wq hq => ev_gtr rfl rfl) ?_
              refine PW_qg rfl rfl rfl hg66 rfl (fun wq hq => ev_move rfl) ?_
              refine PW_splitv (t := 73) rfl (fun hg72 => ?_) (fun hg72 => ?_)
              · have hp72 := of_decide_eq_true hg72
                refine PW_qg rfl rfl rfl hg72 rfl (fun wq hq => ev_fieldAddr fo41_1 rfl) ?_
                refine PW_qg rfl rfl rfl hg72 rfl (fun wq hq => ev_load one23 rfl (hq.cell (hB3.cell rfl))) ?_
                refine PW_qg rfl rfl rfl hg72 rfl (fun wq hq => ev_move rfl) ?_
                refine PW_qg rfl rfl rfl hg72 rfl (fun wq hq => ev_indexAddr Try.underlying23 sz3 rfl rfl (hA.ids.isSome (by omega)) (by omega) (by omega)) ?_
                have hc78 := hA.ids.cell (i := i) (by omega)
                refine PW_qg rfl rfl rfl hg72 rfl (fun wq hq => ev_load one3 rfl (hq.cell (hc78))) ?_
                refine PW_qg rfl rfl rfl hg72 rfl (fun wq hq => ev_fieldAddr fo41_1 rfl) ?_
                refine PW_qg rfl rfl rfl hg72 rfl (fun wq hq => ev_load one23 rfl (hq.cell (hB4.cell rfl))) ?_
                refine PW_qg rfl rfl rfl hg72 rfl (fun wq hq => ev_move rfl) ?_
                refine PW_qg rfl rfl rfl hg72 rfl (fun wq hq => ev_indexAddr Try.underlying23 sz3 rfl rfl (hB.ids.isSome (by omega)) (by omega) (by omega)) ?_
                have hc83 := hB.ids.cell (i := f[i].toNat) (by omega)
                refine PW_qg rfl rfl rfl hg72 rfl (fun wq hq => ev_load one3 rfl (hq.cell (hc83))) ?_
                refine PW_qg rfl rfl rfl hg72 rfl (fun wq hq => ev_neq rfl rfl) ?_
                refine PW_qg rfl rfl rfl hg66 rfl (fun wq hq => ev_pick_t rfl hg72 rfl) ?_
                refine PW_q rfl rfl (fun wq hq => ev_pick_f rfl hg66 rfl) ?_
                refine PW_nil ?_
                refine thenE_n ?_
                refine W_cond rfl (fun hg84 => ?_) (fun hg84 => ?_)
                · have hp84 := of_decide_eq_true hg84
                  refine W_seq ?_
                  refine W_region ?_
                  refine WL_q rfl (ev_assign rfl) ?_
                  refine WL_nil ?_
                  refine thenE_n ?_
                  refine W_ret ?_
                  refine thenE_r ?_
                  refine blockE_r ?_
                  refine thenE_r ?_
                  refine thenE_r ?_
                  refine blockE_r ?_
                  refine thenE_r ?_
                  refine ret1 rfl rfl ?_
                  first | (refine ⟨false, rfl, ffI fun hk => ?_, hE⟩; have := hk.nodes; omega) | (refine ⟨false, rfl, ffI fun hk => ?_, hE⟩; have := hk.ids; omega) | (exact ⟨false, rfl, ffI fun hk => hp32 hk.perm, hE⟩) | (refine ⟨false, rfl, ffI fun hk => ?_, hE⟩; have := hk.pm.rowlen hla hlt (by omega); omega) | (refine ⟨false, rfl, ffI fun hk => ?_, hE⟩; have := hk.pm.inp hla hlt (by omega) (by omega); omega) | (refine ⟨false, rfl, ffI fun hk => ?_, hE⟩; have := (sameId_at hlt (h1 := by omega) (h2 := by omega)).1 (hk.same i hlt); omega) | (exact ⟨false, rfl, ffI fun hk => (hk.pm.mend hla hlt2 hlt).no hp114, hE⟩) | (exact ⟨true, rfl, ttI ⟨by omega, by omega, hp32, ⟨by omega, (by rw [show (B.ends.length : Int) = A.ends.length by omega]; exact perm_rng hp32), fun v h2 => (hJ v (by omega) h2).1⟩, fun v h2 => (hJ v (by omega) (by omega)).2⟩, hE⟩)
                · have hp84 := of_decide_eq_false hg84
                  refine W_skip ?_
                  refine thenE_n ?_
                  refine W_seq ?_
                  refine W_region ?_
                  refine WL_q rfl (ev_fieldAddr fo41_0 rfl) ?_
                  refine WL_q rfl (ev_load one39 rfl (hB3.cell rfl)) ?_
                  refine WL_q rfl (ev_move rfl) ?_
                  have hl90 : i < A.ends.length := by omega
                  have ht90 := totL_le hl90
                  obtain ⟨a90, c90, hc90, hr90⟩ := hA.ends.row hl90
                  refine WL_q rfl (ev_indexAddr Try.underlying39 sz112 rfl rfl (hA.ends.isSome (by omega)) (by omega) (by omega)) ?_
                  refine WL_q rfl (ev_load one112 rfl (hc90)) ?_
                  refine WL_q rfl (ev_len Try.underlying112 rfl) ?_
                  refine WL_q rfl (ev_move rfl) ?_
                  refine WL_nil ?_
                  refine thenE_n ?_
                  refine W_block ?_
                  have hsame : sameId A B f i := by first | (exact fun h => absurd h (by omega)) | exact (sameId_at hlt (h1 := by omega) (h2 := by omega)).2 (by omega)
                  refine W_loopC (G := Nat) [(2, _), (3, _), (4, _), (8, _), (35, _), (36, _), (37, _), (91, _), (92, _)] ((Subs.c rfl (Subs.c rfl (Subs.c rfl (Subs.c rfl (Subs.c rfl (Subs.c rfl (Subs.c rfl (Subs.c rfl (Subs.c rfl Subs.n)))))))))) (fun k => [(93, VI (k : Int))]) (fun k w' => Ext wd6 w' ∧ k ≤ A.ends[i].length ∧ ∀ j (_h : j < k) (h2 : j < A.ends[i].length), MEnd B f f[i] j A.ends[i][j]) (fun k => A.ends[i].length - k) 0 ((Subs.c (lkI rfl (by omega)) Subs.n)) (⟨Ext.refl _, ⟨by omega, fun j h => by omega⟩⟩) ?_
                  rintro k wL2 ⟨hRL2, hk', hJ2⟩
                  have hzL2 := hRL2.size
                  replace hE := hE.trans hRL2
                  replace hRL0 := hRL0.trans hRL2
                  replace hA := hA.ext hRL2
                  replace hB := hB.ext hRL2
                  replace hf := hf.ext hRL2
                  replace hB3 := hB3.ext hRL2
                  replace hB4 := hB4.ext hRL2
                  replace hr45 := hr45.ext hRL2
                  replace hr51 := hr51.ext hRL2
                  replace hr90 := hr90.ext hRL2
                  refine W_seq ?_
                  refine W_region ?_
                  refine WL_q rfl (ev_lss rfl rfl) ?_
                  refine WL_nil ?_
                  refine thenE_n ?_
                  refine W_seq ?_
                  refine W_cond rfl (fun hg94 => ?_) (fun hg94 => ?_)
                  · have hp94 := of_decide_eq_true hg94
                    refine W_skip ?_
                    refine thenE_n ?_
                    refine W_seq ?_
                    refine W_block ?_
                    refine W_seq ?_
                    refine W_region ?_
                    refine WL_q rfl (ev_move rfl) ?_
                    have hlt2 : k < A.ends[i].length := by omega
                    obtain ⟨hu1, hu2, hu3, hu4⟩ := (hkA.endOk hla hlt2).port
                    refine WL_q rfl (ev_indexAddr Try.underlying112 sz114 rfl rfl (hr90.isSome (by omega)) (by omega) (by omega)) ?_
                    refine WL_q rfl (ev_loads st114 sz114 rfl (hr90.cells (i := k) (by omega)) rfl) ?_
                    refine WL_m rfl (ev_alloc zr114) ?_
                    rintro _ w10 ⟨rfl, hN10⟩
                    have hz10 := hN10.size
                    replace hE := hE.trans hN10.ext
                    replace hRL0 := hRL0.trans hN10.ext
                    replace hRL2 := hRL2.trans hN10.ext
                    replace hA := hA.ext hN10.ext
                    replace hB := hB.ext hN10.ext
                    replace hf := hf.ext hN10.ext
                    replace hB3 := hB3.ext hN10.ext
                    replace hB4 := hB4.ext hN10.ext
                    replace hr45 := hr45.ext hN10.ext
                    replace hr51 := hr51.ext hN10.ext
                    replace hr90 := hr90.ext hN10.ext
                    have hB10 : Blk w10 _ _ [_, _] := hN10.blk
                    refine WL_q rfl (ev_assign rfl) ?_
                    refine WL_s (ev_stores sz114 rfl rfl rfl (by simp [Value.oneCell']) hB10 (by simp)) ?_
                    rintro _ w10_5 hS10_5
                    have hz10_5 := hS10_5.size
                    replace hE := hE.sto hS10_5 (by omega)
                    replace hRL0 := hRL0.sto hS10_5 (by omega)
                    replace hRL2 := hRL2.sto hS10_5 (by omega)
                    replace hA := hA.sto hS10_5 (by omega)
                    replace hB := hB.sto hS10_5 (by omega)
                    replace hf := hf.sto hS10_5 (by omega)
                    replace hB3 := hB3.sto hS10_5 (by omega)
                    replace hB4 := hB4.sto hS10_5 (by omega)
                    replace hr45 := hr45.sto hS10_5 (by omega)
                    replace hr51 := hr51.sto hS10_5 (by omega)
                    replace hr90 := hr90.sto hS10_5 (by omega)
                    replace hB10 : Blk w10_5 _ _ [_, _] := hS10_5.blk
                    refine WL_nil ?_
                    refine thenE_n ?_
                    refine W_seq ?_
                    refine W_drawE [(0, true), (1, true), (2, true), (3, true), (4, true), (5, true), (6, true), (7, true), (8, true), (9, true), (10, true), (11, true), (12, true), (13, true), (14, true), (15, true), (16, true)] mixed (by kernel_rfl) rfl (by kernel_rfl) ?_
                    intro wd11 hEd11 hzd11
                    replace hE := hE.trans hEd11
                    replace hRL0 := hRL0.trans hEd11
                    replace hRL2 := hRL2.trans hEd11
                    replace hA := hA.ext hEd11
                    replace hB := hB.ext hEd11
                    replace hf := hf.ext hEd11
                    replace hB3 := hB3.ext hEd11
                    replace hB4 := hB4.ext hEd11
                    replace hr45 := hr45.ext hEd11
                    replace hr51 := hr51.ext hEd11
                    replace hr90 := hr90.ext hEd11
                    replace hB10 := hB10.ext hEd11
                    have hDd11 := Ext.refl wd11
                    refine PW_q rfl rfl (fun wq hq => ev_fieldAddr fo41_0 rfl) ?_
                    refine PW_q rfl rfl (fun wq hq => ev_load one39 rfl (hq.cell (hB4.cell rfl))) ?_
                    refine PW_q rfl rfl (fun wq hq => ev_move rfl) ?_
                    have hl101 : f[i].toNat < B.ends.length := by omega
                    have ht101 := totL_le hl101
                    obtain ⟨a101, c101, hc101, hr101⟩ := hB.ends.row hl101
                    refine PW_q rfl rfl (fun wq hq => ev_indexAddr Try.underlying39 sz112 rfl rfl (hB.ends.isSome (by omega)) (by omega) (by omega)) ?_
                    refine PW_q rfl rfl (fun wq hq => ev_load one112 rfl (hq.cell (hc101))) ?_
                    refine PW_q rfl rfl (fun wq hq => ev_move rfl) ?_
                    refine PW_q rfl rfl (fun wq hq => ev_indexAddr Try.underlying112 sz114 rfl rfl (hr101.isSome (by omega)) (by omega) (by omega)) ?_
                    have hc105 := hr101.cells (i := k) (by omega)
                    refine PW_q rfl rfl (fun wq hq => ev_loads st114 sz114 rfl (hq.cells (hc105)) rfl) ?_
                    refine PW_q rfl rfl (fun wq hq => ev_move rfl) ?_
                    refine PW_q rfl rfl (fun wq hq => ev_fieldAddr fo114_0 rfl) ?_
                    refine PW_q rfl rfl (fun wq hq => ev_load one3 rfl (hq.cell (hB10.cell rfl))) ?_
                    refine PW_q rfl rfl (fun wq hq => ev_indexAddr Try.underlying23 sz3 rfl rfl (hf.isSome (by omega)) (by omega) (by omega)) ?_
                    have hc110 := hf.cell (i := A.ends[i][k].1.toNat) (by omega)
                    refine PW_q rfl rfl (fun wq hq => ev_load one3 rfl (hq.cell (hc110))) ?_
                    refine PW_q rfl rfl (fun wq hq => ev_fieldAddr fo114_1 rfl) ?_
                    refine PW_q rfl rfl (fun wq hq => ev_load one3 rfl (hq.cell (hB10.cell rfl))) ?_
                    refine PW_q rfl rfl (fun wq hq => ev_build2 sn114_2 rfl rfl rfl rfl) ?_
                    refine PW_q rfl rfl (fun wq hq => ev_neq_pair pr114 rfl rfl) ?_
                    refine PW_nil ?_
                    refine thenE_n ?_
                    refine W_cond rfl (fun hg114 => ?_) (fun hg114 => ?_)
                    · have hp114 := of_decide_eq_true hg114
                      refine W_seq ?_
                      refine W_region ?_
                      refine WL_q rfl (ev_assign rfl) ?_
                      refine WL_nil ?_
                      refine thenE_n ?_
                      refine W_ret ?_
                      refine blockE_r ?_
                      refine thenE_r ?_
                      refine thenE_r ?_
                      refine blockE_r ?_
                      refine blockE_r ?_
                      refine thenE_r ?_
                      refine thenE_r ?_
                      refine blockE_r ?_
                      refine thenE_r ?_
                      refine ret1 rfl rfl ?_
                      first | (refine ⟨false, rfl, ffI fun hk => ?_, hE⟩; have := hk.nodes; omega) | (refine ⟨false, rfl, ffI fun hk => ?_, hE⟩; have := hk.ids; omega) | (exact ⟨false, rfl, ffI fun hk => hp32 hk.perm, hE⟩) | (refine ⟨false, rfl, ffI fun hk => ?_, hE⟩; have := hk.pm.rowlen hla hlt (by omega); omega) | (refine ⟨false, rfl, ffI fun hk => ?_, hE⟩; have := hk.pm.inp hla hlt (by omega) (by omega); omega) | (refine ⟨false, rfl, ffI fun hk => ?_, hE⟩; have := (sameId_at hlt (h1 := by omega) (h2 := by omega)).1 (hk.same i hlt); omega) | (exact ⟨false, rfl, ffI fun hk => (hk.pm.mend hla hlt2 hlt).no hp114, hE⟩) | (exact ⟨true, rfl, ttI ⟨by omega, by omega, hp32, ⟨by omega, (by rw [show (B.ends.length : Int) = A.ends.length by omega]; exact perm_rng hp32), fun v h2 => (hJ v (by omega) h2).1⟩, fun v h2 => (hJ v (by omega) (by omega)).2⟩, hE⟩)
                    · have hp114 := of_decide_eq_false hg114
                      refine W_skip ?_
                      refine blockE_n ?_
                      refine thenE_n ?_
                      refine W_region ?_
                      refine WL_q rfl (ev_add rfl rfl (by omega)) ?_
                      refine WL_q rfl (ev_move rfl) ?_
                      refine WL_nil ?_
                      refine thenE_n ?_
                      exact ⟨k + 1, (Subs.c rfl (Subs.c rfl (Subs.c rfl (Subs.c rfl (Subs.c rfl (Subs.c rfl (Subs.c rfl (Subs.c rfl (Subs.c rfl Subs.n))))))))), (Subs.c (lkI rfl (by omega)) Subs.n), ⟨hRL2, ⟨by omega, dsucc (P := fun j h2 => MEnd B f f[i] j A.ends[i][j]) hJ2 hlt2 ⟨by omega, by omega, by omega, Prod.ext (by omega) (by omega)⟩⟩⟩, by first | omega | (dsimp only; omega)⟩
                  · have hp94 := of_decide_eq_false hg94
                    refine W_exit ?_
                    refine thenE_x ?_
                    refine thenE_x ?_
                    refine blockE_hit ?_
                    refine blockE_n ?_
                    refine thenE_n ?_
                    refine W_region ?_
                    refine WL_q rfl (ev_add rfl rfl (by omega)) ?_
                    refine WL_q rfl (ev_move rfl) ?_
                    refine WL_nil ?_
                    refine thenE_n ?_
                    exact ⟨i + 1, (Subs.c rfl (Subs.c rfl (Subs.c rfl (Subs.c rfl (Subs.c rfl Subs.n))))), (Subs.c (lkI rfl (by omega)) Subs.n), ⟨hRL0, ⟨by omega, dsucc (P := fun j h2 => MRow A B f j A.ends[j] ∧ sameId A B f j) hJ hla ⟨⟨hlt, by omega, by omega, by omega, by omega, by omega, fun j h2 => hJ2 j (by omega) h2⟩, hsame⟩⟩⟩, by first | omega | (dsimp only; omega)⟩
              · have hp72 := of_decide_eq_false hg72
                refine PW_no rfl rfl rfl hg72 rfl ?_
                refine PW_no rfl rfl rfl hg72 rfl ?_
                refine PW_no rfl rfl rfl hg72 rfl ?_
                refine PW_no rfl rfl rfl hg72 rfl ?_
                refine PW_no rfl rfl rfl hg72 rfl ?_
                refine PW_no rfl rfl rfl hg72 rfl ?_
                refine PW_no rfl rfl rfl hg72 rfl ?_
                refine PW_no rfl rfl rfl hg72 rfl ?_
                refine PW_no rfl rfl rfl hg72 rfl ?_
                refine PW_no rfl rfl rfl hg72 rfl ?_
                refine PW_no rfl rfl rfl hg72 rfl ?_
                refine PW_qg rfl rfl rfl hg66 rfl (fun wq hq => ev_pick_f rfl hg72 rfl) ?_
                refine PW_q rfl rfl (fun wq hq => ev_pick_f rfl hg66 rfl) ?_
                refine PW_nil ?_
                refine thenE_n ?_
                refine W_cond_f rfl ?_
                refine W_skip ?_
                refine thenE_n ?_
                refine W_seq ?_
                refine W_region ?_
                refine WL_q rfl (ev_fieldAddr fo41_0 rfl) ?_
                refine WL_q rfl (ev_load one39 rfl (hB3.cell rfl)) ?_
                refine WL_q rfl (ev_move rfl) ?_
                have hl90 : i < A.ends.length := by omega
                have ht90 := totL_le hl90
                obtain ⟨a90, c90, hc90, hr90⟩ := hA.ends.row hl90
                refine WL_q rfl (ev_indexAddr Try.underlying39 sz112 rfl rfl (hA.ends.isSome (by omega)) (by omega) (by omega)) ?_
                refine WL_q rfl (ev_load one112 rfl (hc90)) ?_
                refine WL_q rfl (ev_len Try.underlying112 rfl) ?_
                refine WL_q rfl (ev_move rfl) ?_
                refine WL_nil ?_
                refine thenE_n ?_
                refine W_block ?_
                have hsame : sameId A B f i := by first | (exact fun h => absurd h (by omega)) | exact (sameId_at hlt (h1 := by omega) (h2 := by omega)).2 (by omega)
                refine W_loopC (G := Nat) [(2, _), (3, _), (4, _), (8, _), (35, _), (36, _), (37, _), (91, _), (92, _)] ((Subs.c rfl (Subs.c rfl (Subs.c rfl (Subs.c rfl (Subs.c rfl (Subs.c rfl (Subs.c rfl (Subs.c rfl (Subs.c rfl Subs.n)))))))))) (fun k => [(93, VI (k : Int))]) (fun k w' => Ext wd6 w' ∧ k ≤ A.ends[i].length ∧ ∀ j (_h : j < k) (h2 : j < A.ends[i].length), MEnd B f f[i] j A.ends[i][j]) (fun k => A.ends[i].length - k) 0 ((Subs.c (lkI rfl (by omega)) Subs.n)) (⟨Ext.refl _, ⟨by omega, fun j h => by omega⟩⟩) ?_
                rintro k wL2 ⟨hRL2, hk', hJ2⟩
                have hzL2 := hRL2.size
                replace hE := hE.trans hRL2
                replace hRL0 := hRL0.trans hRL2
                replace hA := hA.ext hRL2
                replace hB := hB.ext hRL2
                replace hf := hf.ext hRL2
                replace hB3 := hB3.ext hRL2
                replace hB4 := hB4.ext hRL2
                replace hr45 := hr45.ext hRL2
                replace hr51 := hr51.ext hRL2
                replace hr90 := hr90.ext hRL2
                refine W_seq ?_
                refine W_region ?_
                refine WL_q rfl (ev_lss rfl rfl) ?_
                refine WL_nil ?_
                refine thenE_n ?_
                refine W_seq ?_
                refine W_cond rfl (fun hg94 => ?_) (fun hg94 => ?_)
                · have hp94 := of_decide_eq_true hg94
                  refine W_skip ?_
                  refine thenE_n ?_
                  refine W_seq ?_
                  refine W_block ?_
                  refine W_seq ?_
                  refine W_region ?_
                  refine WL_q rfl (ev_move rfl) ?_
                  have hlt2 : k < A.ends[i].length := by omega
                  obtain ⟨hu1, hu2, hu3, hu4⟩ := (hkA.endOk hla hlt2).port
                  refine WL_q rfl (ev_indexAddr Try.underlying112 sz114 rfl rfl (hr90.isSome (by omega)) (by omega) (by omega)) ?_
                  refine WL_q rfl (ev_loads st114 sz114 rfl (hr90.cells (i := k) (by omega)) rfl) ?_
                  refine WL_m rfl (ev_alloc zr114) ?_
                  rintro _ w10 ⟨rfl, hN10⟩
                  have hz10 := hN10.size
                  replace hE := hE.trans hN10.ext
                  replace hRL0 := hRL0.trans hN10.ext
                  replace hRL2 := hRL2.trans hN10.ext
                  replace hA := hA.ext hN10.ext
                  replace hB := hB.ext hN10.ext
                  replace hf := hf.ext hN10.ext
                  replace hB3 := hB3.ext hN10.ext
                  replace hB4 := hB4.ext hN10.ext
                  replace hr45 := hr45.ext hN10.ext
                  replace hr51 := hr51.ext hN10.ext
                  replace hr90 := hr90.ext hN10.ext
                  have hB10 : Blk w10 _ _ [_, _] := hN10.blk
                  refine WL_q rfl (ev_assign rfl) ?_
                  refine WL_s (ev_stores sz114 rfl rfl rfl (by simp [Value.oneCell']) hB10 (by simp)) ?_
                  rintro _ w10_5 hS10_5
                  have hz10_5 := hS10_5.size
                  replace hE := hE.sto hS10_5 (by omega)
                  replace hRL0 := hRL0.sto hS10_5 (by omega)
                  replace hRL2 := hRL2.sto hS10_5 (by omega)
                  replace hA := hA.sto hS10_5 (by omega)
                  replace hB := hB.sto hS10_5 (by omega)
                  replace hf := hf.sto hS10_5 (by omega)
                  replace hB3 := hB3.sto hS10_5 (by omega)
                  replace hB4 := hB4.sto hS10_5 (by omega)
                  replace hr45 := hr45.sto hS10_5 (by omega)
                  replace hr51 := hr51.sto hS10_5 (by omega)
                  replace hr90 := hr90.sto hS10_5 (by omega)
                  replace hB10 : Blk w10_5 _ _ [_, _] := hS10_5.blk
                  refine WL_nil ?_
                  refine thenE_n ?_
                  refine W_seq ?_
                  refine W_drawE [(0, true), (1, true), (2, true), (3, true), (4, true), (5, true), (6, true), (7, true), (8, true), (9, true), (10, true), (11, true), (12, true), (13, true), (14, true), (15, true), (16, true)] mixed (by kernel_rfl) rfl (by kernel_rfl) ?_
                  intro wd11 hEd11 hzd11
                  replace hE := hE.trans hEd11
                  replace hRL0 := hRL0.trans hEd11
                  replace hRL2 := hRL2.trans hEd11
                  replace hA := hA.ext hEd11
                  replace hB := hB.ext hEd11
                  replace hf := hf.ext hEd11
                  replace hB3 := hB3.ext hEd11
                  replace hB4 := hB4.ext hEd11
                  replace hr45 := hr45.ext hEd11
                  replace hr51 := hr51.ext hEd11
                  replace hr90 := hr90.ext hEd11
                  replace hB10 := hB10.ext hEd11
                  have hDd11 := Ext.refl wd11
                  refine PW_q rfl rfl (fun wq hq => ev_fieldAddr fo41_0 rfl) ?_
                  refine PW_q rfl rfl (fun wq hq => ev_load one39 rfl (hq.cell (hB4.cell rfl))) ?_
                  refine PW_q rfl rfl (fun wq hq => ev_move rfl) ?_
                  have hl101 : f[i].toNat < B.ends.length := by omega
                  have ht101 := totL_le hl101
                  obtain ⟨a101, c101, hc101, hr101⟩ := hB.ends.row hl101
                  refine PW_q rfl rfl (fun wq hq => ev_indexAddr Try.underlying39 sz112 rfl rfl (hB.ends.isSome (by omega)) (by omega) (by omega)) ?_
                  refine PW_q rfl rfl (fun wq hq => ev_load one112 rfl (hq.cell (hc101))) ?_
                  refine PW_q rfl rfl (fun wq hq => ev_move rfl) ?_
                  refine PW_q rfl rfl (fun wq hq => ev_indexAddr Try.underlying112 sz114 rfl rfl (hr101.isSome (by omega)) (by omega) (by omega)) ?_
                  have hc105 := hr101.cells (i := k) (by omega)
                  refine PW_q rfl rfl (fun wq hq => ev_loads st114 sz114 rfl (hq.cells (hc105)) rfl) ?_
                  refine PW_q rfl rfl (fun wq hq => ev_move rfl) ?_
                  refine PW_q rfl rfl (fun wq hq => ev_fieldAddr fo114_0 rfl) ?_
                  refine PW_q rfl rfl (fun wq hq => ev_load one3 rfl (hq.cell (hB10.cell rfl))) ?_
                  refine PW_q rfl rfl (fun wq hq => ev_indexAddr Try.underlying23 sz3 rfl rfl (hf.isSome (by omega)) (by omega) (by omega)) ?_
                  have hc110 := hf.cell (i := A.ends[i][k].1.toNat) (by omega)
                  refine PW_q rfl rfl (fun wq hq => ev_load one3 rfl (hq.cell (hc110))) ?_
                  refine PW_q rfl rfl (fun wq hq => ev_fieldAddr fo114_1 rfl) ?_
                  refine PW_q rfl rfl (fun wq hq => ev_load one3 rfl (hq.cell (hB10.cell rfl))) ?_
                  refine PW_q rfl rfl (fun wq hq => ev_build2 sn114_2 rfl rfl rfl rfl) ?_
                  refine PW_q rfl rfl (fun wq hq => ev_neq_pair pr114 rfl rfl) ?_
                  refine PW_nil ?_
                  refine thenE_n ?_
                  refine W_cond rfl (fun hg114 => ?_) (fun hg114 => ?_)
                  · have hp114 := of_decide_eq_true hg114
                    refine W_seq ?_
                    refine W_region ?_
                    refine WL_q rfl (ev_assign rfl) ?_
                    refine WL_nil ?_
                    refine thenE_n ?_
                    refine W_ret ?_
                    refine blockE_r ?_
                    refine thenE_r ?_
                    refine thenE_r ?_
                    refine blockE_r ?_
                    refine blockE_r ?_
                    refine thenE_r ?_
                    refine thenE_r ?_
                    refine blockE_r ?_
                    refine thenE_r ?_
                    refine ret1 rfl rfl ?_
                    first | (refine ⟨false, rfl, ffI fun hk => ?_, hE⟩; have := hk.nodes; omega) | (refine ⟨false, rfl, ffI fun hk => ?_, hE⟩; have := hk.ids; omega) | (exact ⟨false, rfl, ffI fun hk => hp32 hk.perm, hE⟩) | (refine ⟨false, rfl, ffI fun hk => ?_, hE⟩; have := hk.pm.rowlen hla hlt (by omega); omega) | (refine ⟨false, rfl, ffI fun hk => ?_, hE⟩; have := hk.pm.inp hla hlt (by omega) (by omega); omega) | (refine ⟨false, rfl, ffI fun hk => ?_, hE⟩; have := (sameId_at hlt (h1 := by omega) (h2 := by omega)).1 (hk.same i hlt); omega) | (exact ⟨false, rfl, ffI fun hk => (hk.pm.mend hla hlt2 hlt).no hp114, hE⟩) | (exact ⟨true, rfl, ttI ⟨by omega, by omega, hp32, ⟨by omega, (by rw [show (B.ends.length : Int) = A.ends.length by omega]; exact perm_rng hp32), fun v h2 => (hJ v (by omega) h2).1⟩, fun v h2 => (hJ v (by omega) (by omega)).2⟩, hE⟩)
                  · have hp114 := of_decide_eq_false hg114
                    refine W_skip ?_
                    refine blockE_n ?_
                    refine thenE_n ?_
                    refine W_region ?_
                    refine WL_q rfl (ev_add rfl rfl (by omega)) ?_
                    refine WL_q rfl (ev_move rfl) ?_
                    refine WL_nil ?_
                    refine thenE_n ?_
                    exact ⟨k + 1, (Subs.c rfl (Subs.c rfl (Subs.c rfl (Subs.c rfl (Subs.c rfl (Subs.c rfl (Subs.c rfl (Subs.c rfl (Subs.c rfl Subs.n))))))))), (Subs.c (lkI rfl (by omega)) Subs.n), ⟨hRL2, ⟨by omega, dsucc (P := fun j h2 => MEnd B f f[i] j A.ends[i][j]) hJ2 hlt2 ⟨by omega, by omega, by omega, Prod.ext (by omega) (by omega)⟩⟩⟩, by first | omega | (dsimp only; omega)⟩
                · have hp94 := of_decide_eq_false hg94
                  refine W_exit ?_
                  refine thenE_x ?_
                  refine thenE_x ?_
                  refine blockE_hit ?_
                  refine blockE_n ?_
                  refine thenE_n ?_
                  refine W_region ?_
                  refine WL_q rfl (ev_add rfl rfl (by omega)) ?_
                  refine WL_q rfl (ev_move rfl) ?_
                  refine WL_nil ?_
                  refine thenE_n ?_
                  exact ⟨i + 1, (Subs.c rfl (Subs.c rfl (Subs.c rfl (Subs.c rfl (Subs.c rfl Subs.n))))), (Subs.c (lkI rfl (by omega)) Subs.n), ⟨hRL0, ⟨by omega, dsucc (P := fun j h2 => MRow A B f j A.ends[j] ∧ sameId A B f j) hJ hla ⟨⟨hlt, by omega, by omega, by omega, by omega, by omega, fun j h2 => hJ2 j (by omega) h2⟩, hsame⟩⟩⟩, by first | omega | (dsimp only; omega)⟩
        · have hp38 := of_decide_eq_false hg38
          refine W_exit ?_
          refine thenE_x ?_
          refine thenE_x ?_
          refine blockE_hit ?_
          refine thenE_n ?_
          refine W_seq ?_
          refine W_region ?_
          refine WL_q rfl (ev_assign rfl) ?_
          refine WL_nil ?_
          refine thenE_n ?_
          refine W_ret ?_
          refine ret1 rfl rfl ?_
          first | (refine ⟨false, rfl, ffI fun hk => ?_, hE⟩; have := hk.nodes; omega) | (refine ⟨false, rfl, ffI fun hk => ?_, hE⟩; have := hk.ids; omega) | (exact ⟨false, rfl, ffI fun hk => hp32 hk.perm, hE⟩) | (refine ⟨false, rfl, ffI fun hk => ?_, hE⟩; have := hk.pm.rowlen hla hlt (by omega); omega) | (refine ⟨false, rfl, ffI fun hk => ?_, hE⟩; have := hk.pm.inp hla hlt (by omega) (by omega); omega) | (refine ⟨false, rfl, ffI fun hk => ?_, hE⟩; have := (sameId_at hlt (h1 := by omega) (h2 := by omega)).1 (hk.same i hlt); omega) | (exact ⟨false, rfl, ffI fun hk => (hk.pm.mend hla hlt2 hlt).no hp114, hE⟩) | (exact ⟨true, rfl, ttI ⟨by omega, by omega, hp32, ⟨by omega, (by rw [show (B.ends.length : Int) = A.ends.length by omega]; exact perm_rng hp32), fun v h2 => (hJ v (by omega) h2).1⟩, fun v h2 => (hJ v (by omega) (by omega)).2⟩, hE⟩)

set_option maxRecDepth 100000 in
theorem sIsIso_spec {loA hiA : Nat} (nA : NA) (A : Net) {loB hiB : Nat} (nB : NA) (B : Net) {lof hif : Nat} (af : Option Addr) (cf : Nat) (f : List Int) (w : World) (hA : IsNet loA hiA w nA A) (hhiA : hiA ≤ w.heap.size) (hnA : totN A ≤ 1048576) (hB : IsNet loB hiB w nB B) (hhiB : hiB ≤ w.heap.size) (hnB : totN B ≤ 1048576) (hf : Ints lof hif w af cf f) (hhif : hif ≤ w.heap.size) (hnf : f.length ≤ 1048576) :
    Fn Try.prog 23 #[netV nA A, netV nB B, .slice af f.length cf] w (fun v w' => ∃ b q, v = .tuple #[VB b, VB q] ∧ Two b q (NOk A ∧ NOk B) (IsIso A B f) ∧ Ext w w') := by
  have hqA := totL_len A.ends
  have hmA : totL A.ends + A.ids.length + A.inputs.length ≤ 1048576 := hnA
  have hqB := totL_len B.ends
  have hmB : totL B.ends + B.ids.length + B.inputs.length ≤ 1048576 := hnB
  have hE := Ext.refl w
  refine Fn_of Try.func23 rfl rfl (by kernel_rfl) rfl ?_
  refine W_seq ?_
  refine W_region ?_
  refine WL_m rfl (ev_box rfl) ?_
  rintro _ w3 ⟨rfl, hN3⟩
  have hz3 := hN3.size
  replace hE := hE.trans hN3.ext
  replace hA := hA.ext hN3.ext
  replace hB := hB.ext hN3.ext
  replace hf := hf.ext hN3.ext
  have hB3 : Blk w3 _ _ [_, _, _] := hN3.blk
  refine WL_m rfl (ev_box rfl) ?_
  rintro _ w4 ⟨rfl, hN4⟩
  have hz4 := hN4.size
  replace hE := hE.trans hN4.ext
  replace hA := hA.ext hN4.ext
  replace hB := hB.ext hN4.ext
  replace hf := hf.ext hN4.ext
  replace hB3 := hB3.ext hN4.ext
  have hB4 : Blk w4 _ _ [_, _, _] := hN4.blk
  refine WL_q rfl (ev_assign rfl) ?_
  refine WL_q rfl (ev_assign rfl) ?_
  refine WL_nil ?_
  refine thenE_n ?_
  refine W_seq ?_
  refine W_seq ?_
  refine W_region ?_
  refine WL_q rfl (ev_loads st41 sz41 rfl (cellsB hB3) rfl) ?_
  refine WL_m rfl (ev_call rfl (neGood_spec _ A _ hA (by omega) (by omega))) ?_
  rintro _ w9 ⟨b9, rfl, hb9, hE9⟩
  have hz9 := hE9.size
  replace hE := hE.trans hE9
  replace hA := hA.ext hE9
  replace hB := hB.ext hE9
  replace hf := hf.ext hE9
  replace hB3 := hB3.ext hE9
  replace hB4 := hB4.ext hE9
  refine WL_q rfl (ev_not rfl) ?_
  refine WL_q rfl (ev_move rfl) ?_
  refine WL_splitv (t := 11) rfl (fun hg10 => ?_) (fun hg10 => ?_)
  · have hg9 := not_true hg10
    have hp9 := ttN hb9 hg9
    refine WL_no rfl rfl hg10 rfl ?_
    refine WL_no rfl rfl hg10 rfl ?_
    refine WL_no rfl rfl hg10 rfl ?_
    refine WL_q rfl (ev_pick_t rfl hg10 rfl) ?_
    refine WL_nil ?_
    refine thenE_n ?_
    refine W_cond_t rfl ?_
    refine W_seq ?_
    refine W_region ?_
    refine WL_q rfl (ev_assign rfl) ?_
    refine WL_q rfl (ev_assign rfl) ?_
    refine WL_nil ?_
    refine thenE_n ?_
    refine W_ret ?_
    refine thenE_r ?_
    refine ret2 rfl rfl rfl ?_
    first | (exact ⟨_, _, rfl, .no fun hk => hp9 hk.1, hE⟩) | (exact ⟨_, _, rfl, .no fun hk => hp13 hk.2, hE⟩) | (exact ⟨_, _, rfl, .yes ⟨hp9, hp13⟩ hb19, hE⟩)
  · have hg9 := not_false hg10
    have hp9 := hb9.1 hg9
    refine WL_qg rfl rfl hg10 rfl (ev_loads st41 sz41 rfl (cellsB hB4) rfl) ?_
    refine WL_mg rfl rfl hg10 rfl (ev_call rfl (neGood_spec _ B _ hB (by omega) (by omega))) ?_
    rintro _ w13 ⟨b13, rfl, hb13, hE13⟩
    have hz13 := hE13.size
    replace hE := hE.trans hE13
    replace hA := hA.ext hE13
    replace hB := hB.ext hE13
    replace hf := hf.ext hE13
    replace hB3 := hB3.ext hE13
    replace hB4 := hB4.ext hE13
    refine WL_qg rfl rfl hg10 rfl (ev_not rfl) ?_
    refine WL_q rfl (ev_pick_f rfl hg10 rfl) ?_
    refine WL_nil ?_
    refine thenE_n ?_
    refine W_cond rfl (fun hg14 => ?_) (fun hg14 => ?_)
    · have hg13 := not_true hg14
      have hp13 := ttN hb13 hg13
      refine W_seq ?_
      refine W_region ?_
      refine WL_q rfl (ev_assign rfl) ?_
      refine WL_q rfl (ev_assign rfl) ?_
      refine WL_nil ?_
      refine thenE_n ?_
      refine W_ret ?_
      refine thenE_r ?_
      refine ret2 rfl rfl rfl ?_
      first | (exact ⟨_, _, rfl, .no fun hk => hp9 hk.1, hE⟩) | (exact ⟨_, _, rfl, .no fun hk => hp13 hk.2, hE⟩) | (exact ⟨_, _, rfl, .yes ⟨hp9, hp13⟩ hb19, hE⟩)
    · have hg13 := not_false hg14
      have hp13 := hb13.1 hg13
      refine W_skip ?_
      refine thenE_n ?_
      refine W_seq ?_
      refine W_region ?_
      refine WL_q rfl (ev_loads st41 sz41 rfl (cellsB hB3) rfl) ?_
      refine WL_q rfl (ev_loads st41 sz41 rfl (cellsB hB4) rfl) ?_
      refine WL_q rfl (ev_move rfl) ?_
      refine WL_m rfl (ev_call rfl (isIs_spec _ A _ B _ _ f _ hA (by omega) (by omega) hB (by omega) (by omega) hf (by omega) (by omega) (by assumption) (by assumption))) ?_
      rintro _ w19 ⟨b19, rfl, hb19, hE19⟩
      have hz19 := hE19.size
      replace hE := hE.trans hE19
      replace hA := hA.ext hE19
      replace hB := hB.ext hE19
      replace hf := hf.ext hE19
      replace hB3 := hB3.ext hE19
      replace hB4 := hB4.ext hE19
      refine WL_q rfl (ev_assign rfl) ?_
      refine WL_q rfl (ev_assign rfl) ?_
      refine WL_nil ?_
      refine thenE_n ?_
      refine W_ret ?_
      refine ret2 rfl rfl rfl ?_
      first | (exact ⟨_, _, rfl, .no fun hk => hp9 hk.1, hE⟩) | (exact ⟨_, _, rfl, .no fun hk => hp13 hk.2, hE⟩) | (exact ⟨_, _, rfl, .yes ⟨hp9, hp13⟩ hb19, hE⟩)

set_option maxHeartbeats 4000000 in
set_option maxRecDepth 100000 in
theorem IsIso_spec {loA hiA : Nat} (nA : NA) (A : Net) {loB hiB : Nat} (nB : NA) (B : Net) {lof hif : Nat} (af : Option Addr) (cf : Nat) (f : List Int) (w : World) (hA : IsNet loA hiA w nA A) (hhiA : hiA ≤ w.heap.size) (hnA : totN A ≤ 1048576) (hB : IsNet loB hiB w nB B) (hhiB : hiB ≤ w.heap.size) (hnB : totN B ≤ 1048576) (hf : Ints lof hif w af cf f) (hhif : hif ≤ w.heap.size) (hnf : f.length ≤ 1048576) :
    Fn Try.prog 25 #[netV nA A, netV nB B, .slice af f.length cf] w (fun v w' => ∃ b q, v = .tuple #[VB b, VB q] ∧ Two b q (NOk A ∧ NOk B) (IsIso A B f) ∧ Ext w w') := by
  have hqA := totL_len A.ends
  have hmA : totL A.ends + A.ids.length + A.inputs.length ≤ 1048576 := hnA
  have hqB := totL_len B.ends
  have hmB : totL B.ends + B.ids.length + B.inputs.length ≤ 1048576 := hnB
  have hE := Ext.refl w
  refine Fn_of Try.func25 rfl rfl (by kernel_rfl) rfl ?_
  refine W_seq ?_
  refine W_region ?_
  refine WL_m rfl (ev_box rfl) ?_
  rintro _ w3 ⟨rfl, hN3⟩
  have hz3 := hN3.size
  replace hE := hE.trans hN3.ext
  replace hA := hA.ext hN3.ext
  replace hB := hB.ext hN3.ext
  replace hf := hf.ext hN3.ext
  have hB3 : Blk w3 _ _ [_, _, _] := hN3.blk
  refine WL_m rfl (ev_box rfl) ?_
  rintro _ w4 ⟨rfl, hN4⟩
  have hz4 := hN4.size
  replace hE := hE.trans hN4.ext
  replace hA := hA.ext hN4.ext
  replace hB := hB.ext hN4.ext
  replace hf := hf.ext hN4.ext
  replace hB3 := hB3.ext hN4.ext
  have hB4 : Blk w4 _ _ [_, _, _] := hN4.blk
  refine WL_q rfl (ev_assign rfl) ?_
  refine WL_q rfl (ev_assign rfl) ?_
  refine WL_nil ?_
  refine thenE_n ?_
  refine W_seq ?_
  refine W_seq ?_
  refine W_region ?_
  refine WL_q rfl (ev_loads st41 sz41 rfl (cellsB hB3) rfl) ?_
  refine WL_m rfl (ev_call rfl (IsNetwork_spec _ A _ hA (by omega) (by omega))) ?_
  rintro _ w11 ⟨b11, rfl, hb11, hE11⟩
  have hz11 := hE11.size
  replace hE := hE.trans hE11
  replace hA := hA.ext hE11
  replace hB := hB.ext hE11
  replace hf := hf.ext hE11
  replace hB3 := hB3.ext hE11
  replace hB4 := hB4.ext hE11
  refine WL_q rfl (ev_not rfl) ?_
  refine WL_q rfl (ev_move rfl) ?_
  refine WL_splitv (t := 13) rfl (fun hg12 => ?_) (fun hg12 => ?_)
  · have hg11 := not_true hg12
    have hp11 := ttN hb11 hg11
    refine WL_no rfl rfl hg12 rfl ?_
    refine WL_no rfl rfl hg12 rfl ?_
    refine WL_no rfl rfl hg12 rfl ?_
    refine WL_q rfl (ev_pick_t rfl hg12 rfl) ?_
    refine WL_nil ?_
    refine thenE_n ?_
    refine W_cond_t rfl ?_
    refine W_seq ?_
    refine W_region ?_
    refine WL_q rfl (ev_assign rfl) ?_
    refine WL_q rfl (ev_assign rfl) ?_
    refine WL_nil ?_
    refine thenE_n ?_
    refine W_ret ?_
    refine thenE_r ?_
    refine ret2 rfl rfl rfl ?_
    first | (exact ⟨_, _, rfl, .no fun hk => hp11 hk.1, hE⟩) | (exact ⟨_, _, rfl, .no fun hk => hp15 hk.2, hE⟩) | (exact ⟨_, _, rfl, .yes ⟨hp11, hp15⟩ (ffI fun hk => (by have := hk.nodes; omega)), hE⟩) | (exact ⟨_, _, rfl, .yes ⟨hp11, hp15⟩ (ffI fun hk => hp30 hk.perm), hE⟩) | (exact ⟨_, _, rfl, .yes ⟨hp11, hp15⟩ (ffI fun hk => (by have := hk.ids; have := bne_dec hg42; omega)), hE⟩) | (exact ⟨_, _, rfl, .yes ⟨hp11, hp15⟩ (ffI fun hk => hp47 hk.pm), hE⟩) | (exact ⟨_, _, rfl, .yes ⟨hp11, hp15⟩ (ffI fun hk => (by have := (sameId_at hlt (h1 := by omega) (h2 := by omega)).1 (hk.same i hlt); omega)), hE⟩) | (exact ⟨_, _, rfl, .yes ⟨hp11, hp15⟩ (ttI ⟨by omega, by omega, hp30, hp47, fun v h2 => hJ v (by omega) h2⟩), hE⟩)
  · have hg11 := not_false hg12
    have hp11 := hb11.1 hg11
    refine WL_qg rfl rfl hg12 rfl (ev_loads st41 sz41 rfl (cellsB hB4) rfl) ?_
    refine WL_mg rfl rfl hg12 rfl (ev_call rfl (IsNetwork_spec _ B _ hB (by omega) (by omega))) ?_
    rintro _ w15 ⟨b15, rfl, hb15, hE15⟩
    have hz15 := hE15.size
    replace hE := hE.trans hE15
    replace hA := hA.ext hE15
    replace hB := hB.ext hE15
    replace hf := hf.ext hE15
    replace hB3 := hB3.ext hE15
    replace hB4 := hB4.ext hE15
    refine WL_qg rfl rfl hg12 rfl (ev_not rfl) ?_
    refine WL_q rfl (ev_pick_f rfl hg12 rfl) ?_
    refine WL_nil ?_
    refine thenE_n ?_
    refine W_cond rfl (fun hg16 => ?_) (fun hg16 => ?_)
    · have hg15 := not_true hg16
      have hp15 := ttN hb15 hg15
      refine W_seq ?_
      refine W_region ?_
      refine WL_q rfl (ev_assign rfl) ?_
      refine WL_q rfl (ev_assign rfl) ?_
      refine WL_nil ?_
      refine thenE_n ?_
      refine W_ret ?_
      refine thenE_r ?_
      refine ret2 rfl rfl rfl ?_
      first | (exact ⟨_, _, rfl, .no fun hk => hp11 hk.1, hE⟩) | (exact ⟨_, _, rfl, .no fun hk => hp15 hk.2, hE⟩) | (exact ⟨_, _, rfl, .yes ⟨hp11, hp15⟩ (ffI fun hk => (by have := hk.nodes; omega)), hE⟩) | (exact ⟨_, _, rfl, .yes ⟨hp11, hp15⟩ (ffI fun hk => hp30 hk.perm), hE⟩) | (exact ⟨_, _, rfl, .yes ⟨hp11, hp15⟩ (ffI fun hk => (by have := hk.ids; have := bne_dec hg42; omega)), hE⟩) | (exact ⟨_, _, rfl, .yes ⟨hp11, hp15⟩ (ffI fun hk => hp47 hk.pm), hE⟩) | (exact ⟨_, _, rfl, .yes ⟨hp11, hp15⟩ (ffI fun hk => (by have := (sameId_at hlt (h1 := by omega) (h2 := by omega)).1 (hk.same i hlt); omega)), hE⟩) | (exact ⟨_, _, rfl, .yes ⟨hp11, hp15⟩ (ttI ⟨by omega, by omega, hp30, hp47, fun v h2 => hJ v (by omega) h2⟩), hE⟩)
    · have hg15 := not_false hg16
      have hp15 := hb15.1 hg15
      refine W_skip ?_
      refine thenE_n ?_
      refine W_seq ?_
      refine W_seq ?_
      refine W_region ?_
      have hinA := hp11.inLen
      have hinB := hp15.inLen
      have hidA := hp11.idl
      have hidB := hp15.idl
      refine WL_q rfl (ev_fieldAddr fo41_0 rfl) ?_
      refine WL_q rfl (ev_load one39 rfl (hB3.cell rfl)) ?_
      refine WL_q rfl (ev_len Try.underlying39 rfl) ?_
      refine WL_q rfl (ev_fieldAddr fo41_0 rfl) ?_
      refine WL_q rfl (ev_load one39 rfl (hB4.cell rfl)) ?_
      refine WL_q rfl (ev_len Try.underlying39 rfl) ?_
      refine WL_q rfl (ev_neq rfl rfl) ?_
      refine WL_q rfl (ev_move rfl) ?_
      refine WL_splitv (t := 25) rfl (fun hg24 => ?_) (fun hg24 => ?_)
      · have hp24 := of_decide_eq_true hg24
        refine WL_no rfl rfl hg24 rfl ?_
        refine WL_no rfl rfl hg24 rfl ?_
        refine WL_no rfl rfl hg24 rfl ?_
        refine WL_no rfl rfl hg24 rfl ?_
        refine WL_no rfl rfl hg24 rfl ?_
        refine WL_no rfl rfl hg24 rfl ?_
        refine WL_q rfl (ev_pick_t rfl hg24 rfl) ?_
        refine WL_q rfl (ev_move rfl) ?_
        refine WL_no rfl rfl rfl rfl ?_
        refine WL_no rfl rfl rfl rfl ?_
        refine WL_no rfl rfl rfl rfl ?_
        refine WL_no rfl rfl rfl rfl ?_
        refine WL_no rfl rfl rfl rfl ?_
        refine WL_no rfl rfl rfl rfl ?_
        refine WL_no rfl rfl rfl rfl ?_
        refine WL_no rfl rfl rfl rfl ?_
        refine WL_no rfl rfl rfl rfl ?_
        refine WL_q rfl (ev_pick_t rfl rfl rfl) ?_
        refine WL_nil ?_
        refine thenE_n ?_
        refine W_cond_t rfl ?_
        refine W_seq ?_
        refine W_region ?_
        refine WL_q rfl (ev_assign rfl) ?_
        refine WL_q rfl (ev_assign rfl) ?_
        refine WL_nil ?_
        refine thenE_n ?_
        refine W_ret ?_
        refine thenE_r ?_
        refine ret2 rfl rfl rfl ?_
        first | (exact ⟨_, _, rfl, .no fun hk => hp11 hk.1, hE⟩) | (exact ⟨_, _, rfl, .no fun hk => hp15 hk.2, hE⟩) | (exact ⟨_, _, rfl, .yes ⟨hp11, hp15⟩ (ffI fun hk => (by have := hk.nodes; omega)), hE⟩) | (exact ⟨_, _, rfl, .yes ⟨hp11, hp15⟩ (ffI fun hk => hp30 hk.perm), hE⟩) | (exact ⟨_, _, rfl, .yes ⟨hp11, hp15⟩ (ffI fun hk => (by have := hk.ids; have := bne_dec hg42; omega)), hE⟩) | (exact ⟨_, _, rfl, .yes ⟨hp11, hp15⟩ (ffI fun hk => hp47 hk.pm), hE⟩) | (exact ⟨_, _, rfl, .yes ⟨hp11, hp15⟩ (ffI fun hk => (by have := (sameId_at hlt (h1 := by omega) (h2 := by omega)).1 (hk.same i hlt); omega)), hE⟩) | (exact ⟨_, _, rfl, .yes ⟨hp11, hp15⟩ (ttI ⟨by omega, by omega, hp30, hp47, fun v h2 => hJ v (by omega) h2⟩), hE⟩)
      · have hp24 := of_decide_eq_false hg24
        refine WL_qg rfl rfl hg24 rfl (ev_move rfl) ?_
        refine WL_qg rfl rfl hg24 rfl (ev_fieldAddr fo41_0 rfl) ?_
        refine WL_qg rfl rfl hg24 rfl (ev_load one39 rfl (hB3.cell rfl)) ?_
        refine WL_qg rfl rfl hg24 rfl (ev_len Try.underlying39 rfl) ?_
        refine WL_mg rfl rfl hg24 rfl (ev_call rfl (isPermutation_spec _ _ f _ _ hf (by omega) (by omega) (by omega))) ?_
        rintro _ w30 ⟨b30, rfl, hb30, hE30⟩
        have hz30 := hE30.size
        replace hE := hE.trans hE30
        replace hA := hA.ext hE30
        replace hB := hB.ext hE30
        replace hf := hf.ext hE30
        replace hB3 := hB3.ext hE30
        replace hB4 := hB4.ext hE30
        refine WL_qg rfl rfl hg24 rfl (ev_not rfl) ?_
        refine WL_q rfl (ev_pick_f rfl hg24 rfl) ?_
        refine WL_q rfl (ev_move rfl) ?_
        refine WL_splitv (t := 33) rfl (fun hg31 => ?_) (fun hg31 => ?_)
        · have hg30 := not_true hg31
          have hp30 := ttN hb30 hg30
          refine WL_no rfl rfl hg31 rfl ?_
          refine WL_no rfl rfl hg31 rfl ?_
          refine WL_no rfl rfl hg31 rfl ?_
          refine WL_no rfl rfl hg31 rfl ?_
          refine WL_no rfl rfl hg31 rfl ?_
          refine WL_no rfl rfl hg31 rfl ?_
          refine WL_no rfl rfl hg31 rfl ?_
          refine WL_no rfl rfl hg31 rfl ?_
          refine WL_no rfl rfl hg31 rfl ?_
          refine WL_q rfl (ev_pick_t rfl hg31 rfl) ?_
          refine WL_nil ?_
          refine thenE_n ?_
          refine W_cond_t rfl ?_
          refine W_seq ?_
          refine W_region ?_
          refine WL_q rfl (ev_assign rfl) ?_
          refine WL_q rfl (ev_assign rfl) ?_
          refine WL_nil ?_
          refine thenE_n ?_
          refine W_ret ?_
          refine thenE_r ?_
          refine ret2 rfl rfl rfl ?_
          first | (exact ⟨_, _, rfl, .no fun hk => hp11 hk.1, hE⟩) | (exact ⟨_, _, rfl, .no fun hk => hp15 hk.2, hE⟩) | (exact ⟨_, _, rfl, .yes ⟨hp11, hp15⟩ (ffI fun hk => (by have := hk.nodes; omega)), hE⟩) | (exact ⟨_, _, rfl, .yes ⟨hp11, hp15⟩ (ffI fun hk => hp30 hk.perm), hE⟩) | (exact ⟨_, _, rfl, .yes ⟨hp11, hp15⟩ (ffI fun hk => (by have := hk.ids; have := bne_dec hg42; omega)), hE⟩) | (exact ⟨_, _, rfl, .yes ⟨hp11, hp15⟩ (ffI fun hk => hp47 hk.pm), hE⟩) | (exact ⟨_, _, rfl, .yes ⟨hp11, hp15⟩ (ffI fun hk => (by have := (sameId_at hlt (h1 := by omega) (h2 := by omega)).1 (hk.same i hlt); omega)), hE⟩) | (exact ⟨_, _, rfl, .yes ⟨hp11, hp15⟩ (ttI ⟨by omega, by omega, hp30, hp47, fun v h2 => hJ v (by omega) h2⟩), hE⟩)
        · have hg30 := not_false hg31
          have hp30 := hb30.1 hg30
          refine WL_qg rfl rfl hg31 rfl (ev_fieldAddr fo41_1 rfl) ?_
          refine WL_qg rfl rfl hg31 rfl (ev_load one23 rfl (hB3.cell rfl)) ?_
          refine WL_qg rfl rfl hg31 rfl (ev_len Try.underlying23 rfl) ?_
          refine WL_qg rfl rfl hg31 rfl (ev_eql rfl rfl) ?_
          refine WL_qg rfl rfl hg31 rfl (ev_fieldAddr fo41_1 rfl) ?_
          refine WL_qg rfl rfl hg31 rfl (ev_load one23 rfl (hB4.cell rfl)) ?_
          refine WL_qg rfl rfl hg31 rfl (ev_len Try.underlying23 rfl) ?_
          refine WL_qg rfl rfl hg31 rfl (ev_eql rfl rfl) ?_
          refine WL_qg rfl rfl hg31 rfl (ev_neq_b Try.underlying4 rfl rfl) ?_
          refine WL_q rfl (ev_pick_f rfl hg31 rfl) ?_
          refine WL_nil ?_
          refine thenE_n ?_
          refine W_cond rfl (fun hg42 => ?_) (fun hg42 => ?_)
          · refine W_seq ?_
            refine W_region ?_
            refine WL_q rfl (ev_assign rfl) ?_
            refine WL_q rfl (ev_assign rfl) ?_
            refine WL_nil ?_
            refine thenE_n ?_
            refine W_ret ?_
            refine thenE_r ?_
            refine ret2 rfl rfl rfl ?_
            first | (exact ⟨_, _, rfl, .no fun hk => hp11 hk.1, hE⟩) | (exact ⟨_, _, rfl, .no fun hk => hp15 hk.2, hE⟩) | (exact ⟨_, _, rfl, .yes ⟨hp11, hp15⟩ (ffI fun hk => (by have := hk.nodes; omega)), hE⟩) | (exact ⟨_, _, rfl, .yes ⟨hp11, hp15⟩ (ffI fun hk => hp30 hk.perm), hE⟩) | (exact ⟨_, _, rfl, .yes ⟨hp11, hp15⟩ (ffI fun hk => (by have := hk.ids; have := bne_dec hg42; omega)), hE⟩) | (exact ⟨_, _, rfl, .yes ⟨hp11, hp15⟩ (ffI fun hk => hp47 hk.pm), hE⟩) | (exact ⟨_, _, rfl, .yes ⟨hp11, hp15⟩ (ffI fun hk => (by have := (sameId_at hlt (h1 := by omega) (h2 := by omega)).1 (hk.same i hlt); omega)), hE⟩) | (exact ⟨_, _, rfl, .yes ⟨hp11, hp15⟩ (ttI ⟨by omega, by omega, hp30, hp47, fun v h2 => hJ v (by omega) h2⟩), hE⟩)
          · refine W_skip ?_
            refine thenE_n ?_
            refine W_seq ?_
            refine W_seq ?_
            refine W_region ?_
            refine WL_q rfl (ev_loads st41 sz41 rfl (cellsB hB3) rfl) ?_
            refine WL_q rfl (ev_loads st41 sz41 rfl (cellsB hB4) rfl) ?_
            refine WL_q rfl (ev_move rfl) ?_
            refine WL_m rfl (ev_call rfl (isPortMap_spec _ _ A B _ _ f _ hA hB hf (by omega) (by omega) (by omega) (by omega) (by omega) (by omega) hp11 hp15)) ?_
            rintro _ w47 ⟨b47, rfl, hb47, hE47⟩
            have hz47 := hE47.size
            replace hE := hE.trans hE47
            replace hA := hA.ext hE47
            replace hB := hB.ext hE47
            replace hf := hf.ext hE47
            replace hB3 := hB3.ext hE47
            replace hB4 := hB4.ext hE47
            refine WL_q rfl (ev_not rfl) ?_
            refine WL_nil ?_
            refine thenE_n ?_
            refine W_cond rfl (fun hg48 => ?_) (fun hg48 => ?_)
            · have hg47 := not_true hg48
              have hp47 := ttN hb47 hg47
              refine W_seq ?_
              refine W_region ?_
              refine WL_q rfl (ev_assign rfl) ?_
              refine WL_q rfl (ev_assign rfl) ?_
              refine WL_nil ?_
              refine thenE_n ?_
              refine W_ret ?_
              refine thenE_r ?_
              refine ret2 rfl rfl rfl ?_
              first | (exact ⟨_, _, rfl, .no fun hk => hp11 hk.1, hE⟩) | (exact ⟨_, _, rfl, .no fun hk => hp15 hk.2, hE⟩) | (exact ⟨_, _, rfl, .yes ⟨hp11, hp15⟩ (ffI fun hk => (by have := hk.nodes; omega)), hE⟩) | (exact ⟨_, _, rfl, .yes ⟨hp11, hp15⟩ (ffI fun hk => hp30 hk.perm), hE⟩) | (exact ⟨_, _, rfl, .yes ⟨hp11, hp15⟩ (ffI fun hk => (by have := hk.ids; have := bne_dec hg42; omega)), hE⟩) | (exact ⟨_, _, rfl, .yes ⟨hp11, hp15⟩ (ffI fun hk => hp47 hk.pm), hE⟩) | (exact ⟨_, _, rfl, .yes ⟨hp11, hp15⟩ (ffI fun hk => (by have := (sameId_at hlt (h1 := by omega) (h2 := by omega)).1 (hk.same i hlt); omega)), hE⟩) | (exact ⟨_, _, rfl, .yes ⟨hp11, hp15⟩ (ttI ⟨by omega, by omega, hp30, hp47, fun v h2 => hJ v (by omega) h2⟩), hE⟩)
            · have hg47 := not_false hg48
              have hp47 := hb47.1 hg47
              refine W_skip ?_
              refine thenE_n ?_
              refine W_seq ?_
              refine W_seq ?_
              refine W_region ?_
              refine WL_q rfl (ev_move rfl) ?_
              refine WL_q rfl (ev_len Try.underlying23 rfl) ?_
              refine WL_q rfl (ev_move rfl) ?_
              refine WL_nil ?_
              refine thenE_n ?_
              refine W_block ?_
              have hfl := hp30.1
              have hzz := beq_dec' hg42
              refine W_loopC (G := Nat) [(3, _), (4, _), (49, _), (50, _)] ((Subs.c rfl (Subs.c rfl (Subs.c rfl (Subs.c rfl Subs.n))))) (fun i => [(51, VI (i : Int))]) (fun i w' => Ext w47 w' ∧ i ≤ f.length ∧ ∀ j (_h : j < i) (h2 : j < f.length), sameId A B f j) (fun i => f.length - i) 0 ((Subs.c (lkI rfl (by omega)) Subs.n)) (⟨Ext.refl _, ⟨by omega, fun j h => by omega⟩⟩) ?_
              rintro i wL0 ⟨hRL0, hi', hJ⟩
              have hzL0 := hRL0.size
              replace hE := hE.trans hRL0
              replace hA := hA.ext hRL0
              replace hB := hB.ext hRL0
              replace hf := hf.ext hRL0
              replace hB3 := hB3.ext hRL0
              replace hB4 := hB4.ext hRL0
              refine W_seq ?_
              refine W_region ?_
              refine WL_q rfl (ev_lss rfl rfl) ?_
              refine WL_nil ?_
              refine thenE_n ?_
              refine W_seq ?_
              refine W_cond rfl (fun hg52 => ?_) (fun hg52 => ?_)
              · have hp52 := of_decide_eq_true hg52
                refine W_skip ?_
                refine thenE_n ?_
                refine W_seq ?_
                refine W_block ?_
                refine W_seq ?_
                refine W_region ?_
                refine WL_q rfl (ev_move rfl) ?_
                have hlt : i < f.length := by omega
                obtain ⟨hr1, hr2⟩ := hp30.2.1 _ (List.getElem_mem hlt)
                refine WL_q rfl (ev_indexAddr Try.underlying23 sz3 rfl rfl (hf.isSome (by omega)) (by omega) (by omega)) ?_
                refine WL_q rfl (ev_load one3 rfl (hf.cell (i := i) (by omega))) ?_
                refine WL_q rfl (ev_assign rfl) ?_
                refine WL_q rfl (ev_assign rfl) ?_
                refine WL_nil ?_
                refine thenE_n ?_
                refine W_seq ?_
                refine W_drawE [(0, true), (1, true), (2, true), (3, true), (4, true), (5, true), (6, true), (7, true), (8, true), (9, true), (10, true), (11, true), (12, true), (13, true), (14, true), (15, true), (16, true)] mixed (by kernel_rfl) rfl (by kernel_rfl) ?_
                intro wd10 hEd10 hzd10
                replace hE := hE.trans hEd10
                replace hRL0 := hRL0.trans hEd10
                replace hA := hA.ext hEd10
                replace hB := hB.ext hEd10
                replace hf := hf.ext hEd10
                replace hB3 := hB3.ext hEd10
                replace hB4 := hB4.ext hEd10
                have hDd10 := Ext.refl wd10
                refine PW_q rfl rfl (fun wq hq => ev_fieldAddr fo41_1 rfl) ?_
                refine PW_q rfl rfl (fun wq hq => ev_load one23 rfl (hq.cell (hB3.cell rfl))) ?_
                refine PW_q rfl rfl (fun wq hq => ev_len Try.underlying23 rfl) ?_
                refine PW_q rfl rfl (fun wq hq => ev_gtr rfl rfl) ?_
                refine PW_q rfl rfl (fun wq hq => ev_move rfl) ?_
                refine PW_splitv (t := 60) rfl (fun hg59 => ?_) (fun hg59 => ?_)
                · have hp59 := of_decide_eq_true hg59
                  refine PW_qg rfl rfl rfl hg59 rfl (fun wq hq => ev_fieldAddr fo41_1 rfl) ?_
                  refine PW_qg rfl rfl rfl hg59 rfl (fun wq hq => ev_load one23 rfl (hq.cell (hB3.cell rfl))) ?_
                  refine PW_qg rfl rfl rfl hg59 rfl (fun wq hq => ev_move rfl) ?_
                  refine PW_qg rfl rfl rfl hg59 rfl (fun wq hq => ev_indexAddr Try.underlying23 sz3 rfl rfl (hA.ids.isSome (by omega)) (by omega) (by omega)) ?_
                  have hc65 := hA.ids.cell (i := i) (by omega)
                  refine PW_qg rfl rfl rfl hg59 rfl (fun wq hq => ev_load one3 rfl (hq.cell (hc65))) ?_
                  refine PW_qg rfl rfl rfl hg59 rfl (fun wq hq => ev_fieldAddr fo41_1 rfl) ?_
                  refine PW_qg rfl rfl rfl hg59 rfl (fun wq hq => ev_load one23 rfl (hq.cell (hB4.cell rfl))) ?_
                  refine PW_qg rfl rfl rfl hg59 rfl (fun wq hq => ev_move rfl) ?_
                  refine PW_qg rfl rfl rfl hg59 rfl (fun wq hq => ev_indexAddr Try.underlying23 sz3 rfl rfl (hB.ids.isSome (by omega)) (by omega) (by omega)) ?_
                  have hc70 := hB.ids.cell (i := f[i].toNat) (by omega)
                  refine PW_qg rfl rfl rfl hg59 rfl (fun wq hq => ev_load one3 rfl (hq.cell (hc70))) ?_
                  refine PW_qg rfl rfl rfl hg59 rfl (fun wq hq => ev_neq rfl rfl) ?_
                  refine PW_q rfl rfl (fun wq hq => ev_pick_t rfl hg59 rfl) ?_
                  refine PW_nil ?_
                  refine thenE_n ?_
                  refine W_cond rfl (fun hg71 => ?_) (fun hg71 => ?_)
                  · have hp71 := of_decide_eq_true hg71
                    refine W_seq ?_
                    refine W_region ?_
                    refine WL_q rfl (ev_assign rfl) ?_
                    refine WL_q rfl (ev_assign rfl) ?_
                    refine WL_nil ?_
                    refine thenE_n ?_
                    refine W_ret ?_
                    refine blockE_r ?_
                    refine thenE_r ?_
                    refine thenE_r ?_
                    refine blockE_r ?_
                    refine thenE_r ?_
                    refine ret2 rfl rfl rfl ?_
                    first | (exact ⟨_, _, rfl, .no fun hk => hp11 hk.1, hE⟩) | (exact ⟨_, _, rfl, .no fun hk => hp15 hk.2, hE⟩) | (exact ⟨_, _, rfl, .yes ⟨hp11, hp15⟩ (ffI fun hk => (by have := hk.nodes; omega)), hE⟩) | (exact ⟨_, _, rfl, .yes ⟨hp11, hp15⟩ (ffI fun hk => hp30 hk.perm), hE⟩) | (exact ⟨_, _, rfl, .yes ⟨hp11, hp15⟩ (ffI fun hk => (by have := hk.ids; have := bne_dec hg42; omega)), hE⟩) | (exact ⟨_, _, rfl, .yes ⟨hp11, hp15⟩ (ffI fun hk => hp47 hk.pm), hE⟩) | (exact ⟨_, _, rfl, .yes ⟨hp11, hp15⟩ (ffI fun hk => (by have := (sameId_at hlt (h1 := by omega) (h2 := by omega)).1 (hk.same i hlt); omega)), hE⟩) | (exact ⟨_, _, rfl, .yes ⟨hp11, hp15⟩ (ttI ⟨by omega, by omega, hp30, hp47, fun v h2 => hJ v (by omega) h2⟩), hE⟩)
                  · have hp71 := of_decide_eq_false hg71
                    refine W_skip ?_
                    refine blockE_n ?_
                    refine thenE_n ?_
                    refine W_region ?_
                    refine WL_q rfl (ev_add rfl rfl (by omega)) ?_
                    refine WL_q rfl (ev_move rfl) ?_
                    refine WL_nil ?_
                    refine thenE_n ?_
                    exact ⟨i + 1, (Subs.c rfl (Subs.c rfl (Subs.c rfl (Subs.c rfl Subs.n)))), (Subs.c (lkI rfl (by omega)) Subs.n), ⟨hRL0, ⟨by omega, dsucc (P := fun j h2 => sameId A B f j) hJ hlt (by first | (exact fun h => absurd h (by omega)) | exact (sameId_at hlt (h1 := by omega) (h2 := by omega)).2 (by omega))⟩⟩, by first | omega | (dsimp only; omega)⟩
                · have hp59 := of_decide_eq_false hg59
                  refine PW_no rfl rfl rfl hg59 rfl ?_
                  refine PW_no rfl rfl rfl hg59 rfl ?_
                  refine PW_no rfl rfl rfl hg59 rfl ?_
                  refine PW_no rfl rfl rfl hg59 rfl ?_
                  refine PW_no rfl rfl rfl hg59 rfl ?_
                  refine PW_no rfl rfl rfl hg59 rfl ?_
                  refine PW_no rfl rfl rfl hg59 rfl ?_
                  refine PW_no rfl rfl rfl hg59 rfl ?_
                  refine PW_no rfl rfl rfl hg59 rfl ?_
                  refine PW_no rfl rfl rfl hg59 rfl ?_
                  refine PW_no rfl rfl rfl hg59 rfl ?_
                  refine PW_q rfl rfl (fun wq hq => ev_pick_f rfl hg59 rfl) ?_
                  refine PW_nil ?_
                  refine thenE_n ?_
                  refine W_cond_f rfl ?_
                  refine W_skip ?_
                  refine blockE_n ?_
                  refine thenE_n ?_
                  refine W_region ?_
                  refine WL_q rfl (ev_add rfl rfl (by omega)) ?_
                  refine WL_q rfl (ev_move rfl) ?_
                  refine WL_nil ?_
                  refine thenE_n ?_
                  exact ⟨i + 1, (Subs.c rfl (Subs.c rfl (Subs.c rfl (Subs.c rfl Subs.n)))), (Subs.c (lkI rfl (by omega)) Subs.n), ⟨hRL0, ⟨by omega, dsucc (P := fun j h2 => sameId A B f j) hJ hlt (by first | (exact fun h => absurd h (by omega)) | exact (sameId_at hlt (h1 := by omega) (h2 := by omega)).2 (by omega))⟩⟩, by first | omega | (dsimp only; omega)⟩
              · have hp52 := of_decide_eq_false hg52
                refine W_exit ?_
                refine thenE_x ?_
                refine thenE_x ?_
                refine blockE_hit ?_
                refine thenE_n ?_
                refine W_seq ?_
                refine W_region ?_
                refine WL_q rfl (ev_assign rfl) ?_
                refine WL_q rfl (ev_assign rfl) ?_
                refine WL_nil ?_
                refine thenE_n ?_
                refine W_ret ?_
                refine ret2 rfl rfl rfl ?_
                first | (exact ⟨_, _, rfl, .no fun hk => hp11 hk.1, hE⟩) | (exact ⟨_, _, rfl, .no fun hk => hp15 hk.2, hE⟩) | (exact ⟨_, _, rfl, .yes ⟨hp11, hp15⟩ (ffI fun hk => (by have := hk.nodes; omega)), hE⟩) | (exact ⟨_, _, rfl, .yes ⟨hp11, hp15⟩ (ffI fun hk => hp30 hk.perm), hE⟩) | (exact ⟨_, _, rfl, .yes ⟨hp11, hp15⟩ (ffI fun hk => (by have := hk.ids; have := bne_dec hg42; omega)), hE⟩) | (exact ⟨_, _, rfl, .yes ⟨hp11, hp15⟩ (ffI fun hk => hp47 hk.pm), hE⟩) | (exact ⟨_, _, rfl, .yes ⟨hp11, hp15⟩ (ffI fun hk => (by have := (sameId_at hlt (h1 := by omega) (h2 := by omega)).1 (hk.same i hlt); omega)), hE⟩) | (exact ⟨_, _, rfl, .yes ⟨hp11, hp15⟩ (ttI ⟨by omega, by omega, hp30, hp47, fun v h2 => hJ v (by omega) h2⟩), hE⟩)

set_option maxRecDepth 100000 in
theorem law_IsIsomorphism (nA : NA) (A : Net) (nB : NA) (B : Net) (af : Option Addr) (cf : Nat) (f : List Int) (w : World) (hA : IsNet 0 w.heap.size w nA A) (hsA : SmN A) (hB : IsNet 0 w.heap.size w nB B) (hsB : SmN B) (hf : Ints 0 w.heap.size w af cf f) :
    Fn Try.prog 4 #[netV nA A, netV nB B, .slice af f.length cf] w (fun v w' => v = VB true ∧ Ext w w') := by
  have hE := Ext.refl w
  refine Fn_of Try.func4 rfl rfl (by kernel_rfl) rfl ?_
  refine W_seq ?_
  refine W_region ?_
  refine WL_m rfl (ev_box rfl) ?_
  rintro _ w3 ⟨rfl, hN3⟩
  have hz3 := hN3.size
  replace hE := hE.trans hN3.ext
  replace hA := hA.ext hN3.ext
  replace hB := hB.ext hN3.ext
  replace hf := hf.ext hN3.ext
  have hB3 : Blk w3 _ _ [_, _, _] := hN3.blk
  refine WL_m rfl (ev_box rfl) ?_
  rintro _ w4 ⟨rfl, hN4⟩
  have hz4 := hN4.size
  replace hE := hE.trans hN4.ext
  replace hA := hA.ext hN4.ext
  replace hB := hB.ext hN4.ext
  replace hf := hf.ext hN4.ext
  replace hB3 := hB3.ext hN4.ext
  have hB4 : Blk w4 _ _ [_, _, _] := hN4.blk
  refine WL_q rfl (ev_assign rfl) ?_
  refine WL_nil ?_
  refine thenE_n ?_
  refine W_seq ?_
  refine W_seq ?_
  refine W_region ?_
  refine WL_q rfl (ev_move rfl) ?_
  refine WL_q rfl (ev_len Try.underlying23 rfl) ?_
  refine WL_q rfl (ev_gtr rfl rfl) ?_
  refine WL_nil ?_
  refine thenE_n ?_
  refine W_cond rfl (fun hg17 => ?_) (fun hg17 => ?_)
  · have hp17 := of_decide_eq_true hg17
    refine W_seq ?_
    refine W_region ?_
    refine WL_q rfl (ev_assign rfl) ?_
    refine WL_nil ?_
    refine thenE_n ?_
    refine W_ret ?_
    refine thenE_r ?_
    refine ret1 rfl rfl ?_
    first | (exact ⟨rfl, hE⟩) | (exact (tfX hg17).elim) | (exact (decF hg17).elim) | (exfalso; omega)
  · have hp17 := of_decide_eq_false hg17
    refine W_skip ?_
    refine thenE_n ?_
    refine W_seq ?_
    refine W_region ?_
    refine WL_q rfl (ev_assign rfl) ?_
    refine WL_nil ?_
    refine thenE_n ?_
    refine W_seq ?_
    refine W_region ?_
    refine WL_q rfl (ev_loads st35 sz35 rfl (cellsB hB3) rfl) ?_
    refine WL_q rfl (ev_move rfl) ?_
    refine WL_m rfl (ev_call rfl (szNetwork_spec _ A _ _ hA (by omega) hsA)) ?_
    rintro _ w20 ⟨r20, rfl, hE20, hr20⟩
    have hz20 := hE20.size
    replace hE := hE.trans hE20
    replace hA := hA.ext hE20
    replace hB := hB.ext hE20
    replace hf := hf.ext hE20
    replace hB3 := hB3.ext hE20
    replace hB4 := hB4.ext hE20
    refine WL_q rfl (ev_assign rfl) ?_
    refine WL_nil ?_
    refine thenE_n ?_
    refine W_seq ?_
    refine W_seq ?_
    refine W_region ?_
    refine WL_q rfl (ev_move rfl) ?_
    refine WL_q rfl (ev_lss rfl rfl) ?_
    refine WL_nil ?_
    refine thenE_n ?_
    refine W_cond rfl (fun hg22 => ?_) (fun hg22 => ?_)
    · have hp22 := of_decide_eq_true hg22
      refine W_seq ?_
      refine W_region ?_
      refine WL_q rfl (ev_assign rfl) ?_
      refine WL_nil ?_
      refine thenE_n ?_
      refine W_ret ?_
      refine thenE_r ?_
      refine ret1 rfl rfl ?_
      first | (exact ⟨rfl, hE⟩) | (exact (tfX hg22).elim) | (exact (decF hg22).elim) | (exfalso; omega)
    · have hp22 := of_decide_eq_false hg22
      refine W_skip ?_
      refine thenE_n ?_
      refine W_seq ?_
      refine W_region ?_
      refine WL_q rfl (ev_loads st35 sz35 rfl (cellsB hB4) rfl) ?_
      refine WL_q rfl (ev_move rfl) ?_
      refine WL_m rfl (ev_call rfl (szNetwork_spec _ B _ _ hB (by omega) hsB)) ?_
      rintro _ w25 ⟨r25, rfl, hE25, hr25⟩
      have hz25 := hE25.size
      replace hE := hE.trans hE25
      replace hA := hA.ext hE25
      replace hB := hB.ext hE25
      replace hf := hf.ext hE25
      replace hB3 := hB3.ext hE25
      replace hB4 := hB4.ext hE25
      refine WL_q rfl (ev_assign rfl) ?_
      refine WL_nil ?_
      refine thenE_n ?_
      refine W_seq ?_
      refine W_seq ?_
      refine W_region ?_
      refine WL_q rfl (ev_move rfl) ?_
      refine WL_q rfl (ev_lss rfl rfl) ?_
      refine WL_nil ?_
      refine thenE_n ?_
      refine W_cond rfl (fun hg27 => ?_) (fun hg27 => ?_)
      · have hp27 := of_decide_eq_true hg27
        refine W_seq ?_
        refine W_region ?_
        refine WL_q rfl (ev_assign rfl) ?_
        refine WL_nil ?_
        refine thenE_n ?_
        refine W_ret ?_
        refine thenE_r ?_
        refine ret1 rfl rfl ?_
        first | (exact ⟨rfl, hE⟩) | (exact (tfX hg27).elim) | (exact (decF hg27).elim) | (exfalso; omega)
      · have hp27 := of_decide_eq_false hg27
        refine W_skip ?_
        refine thenE_n ?_
        refine W_seq ?_
        refine W_drawE [(0, true), (2, true), (4, true), (1, false), (3, false), (5, false), (6, false), (7, true), (8, true), (9, true), (10, true), (11, true)] mixed (by kernel_rfl) rfl (by kernel_rfl) ?_
        intro wd10 hEd10 hzd10
        replace hE := hE.trans hEd10
        replace hA := hA.ext hEd10
        replace hB := hB.ext hEd10
        replace hf := hf.ext hEd10
        replace hB3 := hB3.ext hEd10
        replace hB4 := hB4.ext hEd10
        have hDd10 := Ext.refl wd10
        refine PW_q rfl rfl (fun wq hq => ev_loads st35 sz35 rfl (cellsB (hq.blk hB3)) rfl) ?_
        refine PW_q rfl rfl (fun wq hq => ev_loads st35 sz35 rfl (cellsB (hq.blk hB4)) rfl) ?_
        refine PW_q rfl rfl (fun wq hq => ev_move rfl) ?_
        refine PW_m rfl rfl (ev_call rfl (toNetwork_spec _ A _ hA (by omega) (by omega))) ?_
        rintro _ w30 ⟨h30, rfl, hF30, hE30⟩
        have hz30 := hE30.size
        replace hE := hE.trans hE30
        replace hDd10 := hDd10.trans hE30
        have hN30 := hF30.is
        refine ⟨hDd10, ?_⟩
        have hA_3 := hA.ext hDd10
        have hB_3 := hB.ext hDd10
        have hf_3 := hf.ext hDd10
        have hB3_3 := hB3.ext hDd10
        have hB4_3 := hB4.ext hDd10
        refine PW_m rfl rfl (ev_call rfl (toNetwork_spec _ B _ hB_3 (by omega) (by omega))) ?_
        rintro _ w32 ⟨h32, rfl, hF32, hE32⟩
        have hz32 := hE32.size
        replace hE := hE.trans hE32
        replace hDd10 := hDd10.trans hE32
        replace hF30 := hF30.ext hE32
        replace hN30 := hN30.ext hE32
        have hN32 := hF32.is
        refine ⟨hDd10, ?_⟩
        have hA_5 := hA.ext hDd10
        have hB_5 := hB.ext hDd10
        have hf_5 := hf.ext hDd10
        have hB3_5 := hB3.ext hDd10
        have hB4_5 := hB4.ext hDd10
        refine PW_m rfl rfl (ev_call rfl (toIntS_spec _ _ f _ hf_5 (by omega) (by omega))) ?_
        rintro _ w34 ⟨a34, rfl, hF34, hE34⟩
        have hz34 := hE34.size
        replace hE := hE.trans hE34
        replace hDd10 := hDd10.trans hE34
        replace hF30 := hF30.ext hE34
        replace hN30 := hN30.ext hE34
        replace hF32 := hF32.ext hE34
        replace hN32 := hN32.ext hE34
        have hI34 := hF34.is
        refine ⟨hDd10, ?_⟩
        have hA_6 := hA.ext hDd10
        have hB_6 := hB.ext hDd10
        have hf_6 := hf.ext hDd10
        have hB3_6 := hB3.ext hDd10
        have hB4_6 := hB4.ext hDd10
        refine PW_m rfl rfl (ev_call rfl (sIsIso_spec _ A _ B _ _ f _ hN30 (by omega) (by omega) hN32 (by omega) (by omega) hI34 (by omega) (by omega))) ?_
        rintro _ w35 ⟨b35, q35, rfl, hr35, hE35⟩
        have hz35 := hE35.size
        replace hE := hE.trans hE35
        replace hDd10 := hDd10.trans hE35
        replace hF30 := hF30.ext hE35
        replace hN30 := hN30.ext hE35
        replace hF32 := hF32.ext hE35
        replace hN32 := hN32.ext hE35
        replace hF34 := hF34.ext hE35
        replace hI34 := hI34.ext hE35
        refine ⟨hDd10, ?_⟩
        refine PW_q rfl rfl (fun wq hq => ev_move rfl) ?_
        refine PW_q rfl rfl (fun wq hq => ev_extract rfl rfl) ?_
        refine PW_q rfl rfl (fun wq hq => ev_extract rfl rfl) ?_
        refine PW_q rfl rfl (fun wq hq => ev_assign rfl) ?_
        refine PW_q rfl rfl (fun wq hq => ev_assign rfl) ?_
        replace hA := hA.ext hDd10
        replace hB := hB.ext hDd10
        replace hf := hf.ext hDd10
        replace hB3 := hB3.ext hDd10
        replace hB4 := hB4.ext hDd10
        refine PW_nil ?_
        refine thenE_n ?_
        refine W_seq ?_
        refine W_region ?_
        refine WL_q rfl (ev_loads st35 sz35 rfl (cellsB hB3) rfl) ?_
        refine WL_m rfl (ev_call rfl (toNetwork_spec _ A _ hA (by omega) (by omega))) ?_
        rintro _ w39 ⟨h39, rfl, hF39, hE39⟩
        have hz39 := hE39.size
        replace hE := hE.trans hE39
        replace hA := hA.ext hE39
        replace hB := hB.ext hE39
        replace hf := hf.ext hE39
        replace hB3 := hB3.ext hE39
        replace hB4 := hB4.ext hE39
        replace hF30 := hF30.ext hE39
        replace hN30 := hN30.ext hE39
        replace hF32 := hF32.ext hE39
        replace hN32 := hN32.ext hE39
        replace hF34 := hF34.ext hE39
        replace hI34 := hI34.ext hE39
        have hN39 := hF39.is
        refine WL_m rfl (ev_alloc zr41) ?_
        rintro _ w10 ⟨rfl, hN10⟩
        have hz10 := hN10.size
        replace hE := hE.trans hN10.ext
        replace hA := hA.ext hN10.ext
        replace hB := hB.ext hN10.ext
        replace hf := hf.ext hN10.ext
        replace hB3 := hB3.ext hN10.ext
        replace hB4 := hB4.ext hN10.ext
        replace hF30 := hF30.ext hN10.ext
        replace hN30 := hN30.ext hN10.ext
        replace hF32 := hF32.ext hN10.ext
        replace hN32 := hN32.ext hN10.ext
        replace hF34 := hF34.ext hN10.ext
        replace hI34 := hI34.ext hN10.ext
        replace hF39 := hF39.ext hN10.ext
        replace hN39 := hN39.ext hN10.ext
        have hB10 : Blk w10 _ _ [_, _, _] := hN10.blk
        refine WL_s (ev_stores sz41 rfl rfl rfl (by simp [Value.oneCell']) hB10 (by simp)) ?_
        rintro _ w11_3 hS11_3
        have hz11_3 := hS11_3.size
        replace hE := hE.sto hS11_3 (by omega)
        replace hA := hA.sto hS11_3 (by omega)
        replace hB := hB.sto hS11_3 (by omega)
        replace hf := hf.sto hS11_3 (by omega)
        replace hB3 := hB3.sto hS11_3 (by omega)
        replace hB4 := hB4.sto hS11_3 (by omega)
        replace hF30 := hF30.sto hS11_3 (by omega)
        replace hN30 := hN30.sto hS11_3 (by omega)
        replace hF32 := hF32.sto hS11_3 (by omega)
        replace hN32 := hN32.sto hS11_3 (by omega)
        replace hF34 := hF34.sto hS11_3 (by omega)
        replace hI34 := hI34.sto hS11_3 (by omega)
        replace hF39 := hF39.sto hS11_3 (by omega)
        replace hN39 := hN39.sto hS11_3 (by omega)
        replace hB10 : Blk w11_3 _ _ [_, _, _] := hS11_3.blk
        refine WL_nil ?_
        refine thenE_n ?_
        refine W_seq ?_
        refine W_region ?_
        refine WL_q rfl (ev_loads st35 sz35 rfl (cellsB hB4) rfl) ?_
        refine WL_m rfl (ev_call rfl (toNetwork_spec _ B _ hB (by omega) (by omega))) ?_
        rintro _ w41 ⟨h41, rfl, hF41, hE41⟩
        have hz41 := hE41.size
        replace hE := hE.trans hE41
        replace hA := hA.ext hE41
        replace hB := hB.ext hE41
        replace hf := hf.ext hE41
        replace hB3 := hB3.ext hE41
        replace hB4 := hB4.ext hE41
        replace hF30 := hF30.ext hE41
        replace hN30 := hN30.ext hE41
        replace hF32 := hF32.ext hE41
        replace hN32 := hN32.ext hE41
        replace hF34 := hF34.ext hE41
        replace hI34 := hI34.ext hE41
        replace hF39 := hF39.ext hE41
        replace hN39 := hN39.ext hE41
        replace hB10 := hB10.ext hE41
        have hN41 := hF41.is
        refine WL_m rfl (ev_alloc zr41) ?_
        rintro _ w11 ⟨rfl, hN11⟩
        have hz11 := hN11.size
        replace hE := hE.trans hN11.ext
        replace hA := hA.ext hN11.ext
        replace hB := hB.ext hN11.ext
        replace hf := hf.ext hN11.ext
        replace hB3 := hB3.ext hN11.ext
        replace hB4 := hB4.ext hN11.ext
        replace hF30 := hF30.ext hN11.ext
        replace hN30 := hN30.ext hN11.ext
        replace hF32 := hF32.ext hN11.ext
        replace hN32 := hN32.ext hN11.ext
        replace hF34 := hF34.ext hN11.ext
        replace hI34 := hI34.ext hN11.ext
        replace hF39 := hF39.ext hN11.ext
        replace hN39 := hN39.ext hN11.ext
        replace hB10 := hB10.ext hN11.ext
        replace hF41 := hF41.ext hN11.ext
        replace hN41 := hN41.ext hN11.ext
        have hB11 : Blk w11 _ _ [_, _, _] := hN11.blk
        refine WL_s (ev_stores sz41 rfl rfl rfl (by simp [Value.oneCell']) hB11 (by simp)) ?_
        rintro _ w12_3 hS12_3
        have hz12_3 := hS12_3.size
        replace hE := hE.sto hS12_3 (by omega)
        replace hA := hA.sto hS12_3 (by omega)
        replace hB := hB.sto hS12_3 (by omega)
        replace hf := hf.sto hS12_3 (by omega)
        replace hB3 := hB3.sto hS12_3 (by omega)
        replace hB4 := hB4.sto hS12_3 (by omega)
        replace hF30 := hF30.sto hS12_3 (by omega)
        replace hN30 := hN30.sto hS12_3 (by omega)
        replace hF32 := hF32.sto hS12_3 (by omega)
        replace hN32 := hN32.sto hS12_3 (by omega)
        replace hF34 := hF34.sto hS12_3 (by omega)
        replace hI34 := hI34.sto hS12_3 (by omega)
        replace hF39 := hF39.sto hS12_3 (by omega)
        replace hN39 := hN39.sto hS12_3 (by omega)
        replace hB10 := hB10.sto hS12_3 (by omega)
        replace hF41 := hF41.sto hS12_3 (by omega)
        replace hN41 := hN41.sto hS12_3 (by omega)
        replace hB11 : Blk w12_3 _ _ [_, _, _] := hS12_3.blk
        refine WL_nil ?_
        refine thenE_n ?_
        refine W_seq ?_
        refine W_region ?_
        refine WL_q rfl (ev_move rfl) ?_
        refine WL_m rfl (ev_call rfl (toIntS_spec _ _ f _ hf (by omega) (by omega))) ?_
        rintro _ w43 ⟨a43, rfl, hF43, hE43⟩
        have hz43 := hE43.size
        replace hE := hE.trans hE43
        replace hA := hA.ext hE43
        replace hB := hB.ext hE43
        replace hf := hf.ext hE43
        replace hB3 := hB3.ext hE43
        replace hB4 := hB4.ext hE43
        replace hF30 := hF30.ext hE43
        replace hN30 := hN30.ext hE43
        replace hF32 := hF32.ext hE43
        replace hN32 := hN32.ext hE43
        replace hF34 := hF34.ext hE43
        replace hI34 := hI34.ext hE43
        replace hF39 := hF39.ext hE43
        replace hN39 := hN39.ext hE43
        replace hB10 := hB10.ext hE43
        replace hF41 := hF41.ext hE43
        replace hN41 := hN41.ext hE43
        replace hB11 := hB11.ext hE43
        have hI43 := hF43.is
        refine WL_q rfl (ev_assign rfl) ?_
        refine WL_nil ?_
        refine thenE_n ?_
        refine W_seq ?_
        refine W_region ?_
        refine WL_q rfl (ev_loads st41 sz41 rfl (cellsB hB10) rfl) ?_
        refine WL_q rfl (ev_loads st41 sz41 rfl (cellsB hB11) rfl) ?_
        refine WL_q rfl (ev_move rfl) ?_
        refine WL_m rfl (ev_call rfl (IsIso_spec _ A _ B _ _ f _ hN39 (by omega) (by omega) hN41 (by omega) (by omega) hI43 (by omega) (by omega))) ?_
        rintro _ w48 ⟨b48, q48, rfl, hr48, hE48⟩
        have hz48 := hE48.size
        replace hE := hE.trans hE48
        replace hA := hA.ext hE48
        replace hB := hB.ext hE48
        replace hf := hf.ext hE48
        replace hB3 := hB3.ext hE48
        replace hB4 := hB4.ext hE48
        replace hF30 := hF30.ext hE48
        replace hN30 := hN30.ext hE48
        replace hF32 := hF32.ext hE48
        replace hN32 := hN32.ext hE48
        replace hF34 := hF34.ext hE48
        replace hI34 := hI34.ext hE48
        replace hF39 := hF39.ext hE48
        replace hN39 := hN39.ext hE48
        replace hB10 := hB10.ext hE48
        replace hF41 := hF41.ext hE48
        replace hN41 := hN41.ext hE48
        replace hB11 := hB11.ext hE48
        replace hF43 := hF43.ext hE48
        replace hI43 := hI43.ext hE48
        refine WL_q rfl (ev_move rfl) ?_
        refine WL_q rfl (ev_extract rfl rfl) ?_
        refine WL_q rfl (ev_extract rfl rfl) ?_
        refine WL_q rfl (ev_assign rfl) ?_
        refine WL_q rfl (ev_assign rfl) ?_
        refine WL_nil ?_
        refine thenE_n ?_
        refine W_seq ?_
        refine W_seq ?_
        refine W_region ?_
        refine WL_q rfl (ev_move rfl) ?_
        refine WL_q rfl (ev_move rfl) ?_
        refine WL_q rfl (ev_neq_b Try.underlying4 rfl rfl) ?_
        refine WL_q rfl (ev_move rfl) ?_
        refine WL_splitv (t := 54) rfl (fun hg53 => ?_) (fun hg53 => ?_)
        · refine WL_no rfl rfl hg53 rfl ?_
          refine WL_no rfl rfl hg53 rfl ?_
          refine WL_no rfl rfl hg53 rfl ?_
          refine WL_q rfl (ev_pick_t rfl hg53 rfl) ?_
          refine WL_nil ?_
          refine thenE_n ?_
          refine W_cond_t rfl ?_
          refine W_seq ?_
          refine W_region ?_
          refine WL_q rfl (ev_assign rfl) ?_
          refine WL_nil ?_
          refine thenE_n ?_
          refine W_ret ?_
          refine thenE_r ?_
          refine ret1 rfl rfl ?_
          first | (exact ⟨rfl, hE⟩) | (exact (bneE hg53 (hr48.det1 hr35)).elim) | (exact absurd (hr48.det1 hr35) hp53) | (exact absurd (hr48.det1 hr35) (of_decide_eq_false hg53)) | (exact (bneE hg53 (hr48.det2 hr35)).elim) | (exact absurd (hr48.det2 hr35) hp53) | (exact absurd (hr48.det2 hr35) (of_decide_eq_false hg53)) | (exact (bneE hg53 (hr48.det3 hr35)).elim) | (exact absurd (hr48.det3 hr35) hp53) | (exact absurd (hr48.det3 hr35) (of_decide_eq_false hg53)) | (exact (tfX hg53).elim) | (exact (decF hg53).elim) | (exfalso; omega)
        · refine WL_qg rfl rfl hg53 rfl (ev_move rfl) ?_
          refine WL_qg rfl rfl hg53 rfl (ev_move rfl) ?_
          refine WL_qg rfl rfl hg53 rfl (ev_neq_b Try.underlying4 rfl rfl) ?_
          refine WL_q rfl (ev_pick_f rfl hg53 rfl) ?_
          refine WL_nil ?_
          refine thenE_n ?_
          refine W_cond rfl (fun hg57 => ?_) (fun hg57 => ?_)
          · refine W_seq ?_
            refine W_region ?_
            refine WL_q rfl (ev_assign rfl) ?_
            refine WL_nil ?_
            refine thenE_n ?_
            refine W_ret ?_
            refine thenE_r ?_
            refine ret1 rfl rfl ?_
            first | (exact ⟨rfl, hE⟩) | (exact (bneE hg57 (hr48.det1 hr35)).elim) | (exact absurd (hr48.det1 hr35) hp57) | (exact absurd (hr48.det1 hr35) (of_decide_eq_false hg57)) | (exact (bneE hg57 (hr48.det2 hr35)).elim) | (exact absurd (hr48.det2 hr35) hp57) | (exact absurd (hr48.det2 hr35) (of_decide_eq_false hg57)) | (exact (bneE hg57 (hr48.det3 hr35)).elim) | (exact absurd (hr48.det3 hr35) hp57) | (exact absurd (hr48.det3 hr35) (of_decide_eq_false hg57)) | (exact (tfX hg57).elim) | (exact (decF hg57).elim) | (exfalso; omega)
          · refine W_skip ?_
            refine thenE_n ?_
            refine W_seq ?_
            refine W_seq ?_
            refine W_drawE [(0, true), (1, true), (2, false), (3, false), (4, true)] mixed (by kernel_rfl) rfl (by kernel_rfl) ?_
            intro wd17 hEd17 hzd17
            replace hE := hE.trans hEd17
            replace hA := hA.ext hEd17
            replace hB := hB.ext hEd17
            replace hf := hf.ext hEd17
            replace hB3 := hB3.ext hEd17
            replace hB4 := hB4.ext hEd17
            replace hF30 := hF30.ext hEd17
            replace hN30 := hN30.ext hEd17
            replace hF32 := hF32.ext hEd17
            replace hN32 := hN32.ext hEd17
            replace hF34 := hF34.ext hEd17
            replace hI34 := hI34.ext hEd17
            replace hF39 := hF39.ext hEd17
            replace hN39 := hN39.ext hEd17
            replace hB10 := hB10.ext hEd17
            replace hF41 := hF41.ext hEd17
            replace hN41 := hN41.ext hEd17
            replace hB11 := hB11.ext hEd17
            replace hF43 := hF43.ext hEd17
            replace hI43 := hI43.ext hEd17
            have hDd17 := Ext.refl wd17
            refine PW_q rfl rfl (fun wq hq => ev_loads st41 sz41 rfl (cellsB (hq.blk hB10)) rfl) ?_
            refine PW_q rfl rfl (fun wq hq => ev_loads st35 sz35 rfl (cellsB (hq.blk hB3)) rfl) ?_
            refine PW_m rfl rfl (ev_call rfl (toNetwork_spec _ A _ hA (by omega) (by omega))) ?_
            rintro _ w61 ⟨h61, rfl, hF61, hE61⟩
            have hz61 := hE61.size
            replace hE := hE.trans hE61
            replace hDd17 := hDd17.trans hE61
            have hN61 := hF61.is
            refine ⟨hDd17, ?_⟩
            have hA_3 := hA.ext hDd17
            have hB_3 := hB.ext hDd17
            have hf_3 := hf.ext hDd17
            have hB3_3 := hB3.ext hDd17
            have hB4_3 := hB4.ext hDd17
            have hF30_3 := hF30.ext hDd17
            have hN30_3 := hN30.ext hDd17
            have hF32_3 := hF32.ext hDd17
            have hN32_3 := hN32.ext hDd17
            have hF34_3 := hF34.ext hDd17
            have hI34_3 := hI34.ext hDd17
            have hF39_3 := hF39.ext hDd17
            have hN39_3 := hN39.ext hDd17
            have hB10_3 := hB10.ext hDd17
            have hF41_3 := hF41.ext hDd17
            have hN41_3 := hN41.ext hDd17
            have hB11_3 := hB11.ext hDd17
            have hF43_3 := hF43.ext hDd17
            have hI43_3 := hI43.ext hDd17
            refine PW_m rfl rfl (ev_call rfl (eqNetwork_spec _ _ A _ hN39_3 hN61 (by omega))) ?_
            rintro _ w62 ⟨rfl, hE62⟩
            have hz62 := hE62.size
            replace hE := hE.trans hE62
            replace hDd17 := hDd17.trans hE62
            replace hF61 := hF61.ext hE62
            replace hN61 := hN61.ext hE62
            refine ⟨hDd17, ?_⟩
            refine PW_q rfl rfl (fun wq hq => ev_not rfl) ?_
            replace hA := hA.ext hDd17
            replace hB := hB.ext hDd17
            replace hf := hf.ext hDd17
            replace hB3 := hB3.ext hDd17
            replace hB4 := hB4.ext hDd17
            replace hF30 := hF30.ext hDd17
            replace hN30 := hN30.ext hDd17
            replace hF32 := hF32.ext hDd17
            replace hN32 := hN32.ext hDd17
            replace hF34 := hF34.ext hDd17
            replace hI34 := hI34.ext hDd17
            replace hF39 := hF39.ext hDd17
            replace hN39 := hN39.ext hDd17
            replace hB10 := hB10.ext hDd17
            replace hF41 := hF41.ext hDd17
            replace hN41 := hN41.ext hDd17
            replace hB11 := hB11.ext hDd17
            replace hF43 := hF43.ext hDd17
            replace hI43 := hI43.ext hDd17
            refine PW_nil ?_
            refine thenE_n ?_
            refine W_cond rfl (fun hg63 => ?_) (fun hg63 => ?_)
            · have hg62 := not_true hg63
              refine W_seq ?_
              refine W_region ?_
              refine WL_q rfl (ev_assign rfl) ?_
              refine WL_nil ?_
              refine thenE_n ?_
              refine W_ret ?_
              refine thenE_r ?_
              refine ret1 rfl rfl ?_
              first | (exact ⟨rfl, hE⟩) | (exact (bneE hg62 (hr48.det1 hr35)).elim) | (exact absurd (hr48.det1 hr35) hp62) | (exact absurd (hr48.det1 hr35) (of_decide_eq_false hg62)) | (exact (bneE hg62 (hr48.det2 hr35)).elim) | (exact absurd (hr48.det2 hr35) hp62) | (exact absurd (hr48.det2 hr35) (of_decide_eq_false hg62)) | (exact (bneE hg62 (hr48.det3 hr35)).elim) | (exact absurd (hr48.det3 hr35) hp62) | (exact absurd (hr48.det3 hr35) (of_decide_eq_false hg62)) | (exact (tfX hg62).elim) | (exact (decF hg62).elim) | (exfalso; omega)
            · have hg62 := not_false hg63
              refine W_skip ?_
              refine thenE_n ?_
              refine W_seq ?_
              refine W_seq ?_
              refine W_drawE [(0, true), (1, true), (2, false), (3, false), (4, true)] mixed (by kernel_rfl) rfl (by kernel_rfl) ?_
              intro wd19 hEd19 hzd19
              replace hE := hE.trans hEd19
              replace hA := hA.ext hEd19
              replace hB := hB.ext hEd19
              replace hf := hf.ext hEd19
              replace hB3 := hB3.ext hEd19
              replace hB4 := hB4.ext hEd19
              replace hF30 := hF30.ext hEd19
              replace hN30 := hN30.ext hEd19
              replace hF32 := hF32.ext hEd19
              replace hN32 := hN32.ext hEd19
              replace hF34 := hF34.ext hEd19
              replace hI34 := hI34.ext hEd19
              replace hF39 := hF39.ext hEd19
              replace hN39 := hN39.ext hEd19
              replace hB10 := hB10.ext hEd19
              replace hF41 := hF41.ext hEd19
              replace hN41 := hN41.ext hEd19
              replace hB11 := hB11.ext hEd19
              replace hF43 := hF43.ext hEd19
              replace hI43 := hI43.ext hEd19
              replace hF61 := hF61.ext hEd19
              replace hN61 := hN61.ext hEd19
              have hDd19 := Ext.refl wd19
              refine PW_q rfl rfl (fun wq hq => ev_loads st41 sz41 rfl (cellsB (hq.blk hB11)) rfl) ?_
              refine PW_q rfl rfl (fun wq hq => ev_loads st35 sz35 rfl (cellsB (hq.blk hB4)) rfl) ?_
              refine PW_m rfl rfl (ev_call rfl (toNetwork_spec _ B _ hB (by omega) (by omega))) ?_
              rintro _ w66 ⟨h66, rfl, hF66, hE66⟩
              have hz66 := hE66.size
              replace hE := hE.trans hE66
              replace hDd19 := hDd19.trans hE66
              have hN66 := hF66.is
              refine ⟨hDd19, ?_⟩
              have hA_3 := hA.ext hDd19
              have hB_3 := hB.ext hDd19
              have hf_3 := hf.ext hDd19
              have hB3_3 := hB3.ext hDd19
              have hB4_3 := hB4.ext hDd19
              have hF30_3 := hF30.ext hDd19
              have hN30_3 := hN30.ext hDd19
              have hF32_3 := hF32.ext hDd19
              have hN32_3 := hN32.ext hDd19
              have hF34_3 := hF34.ext hDd19
              have hI34_3 := hI34.ext hDd19
              have hF39_3 := hF39.ext hDd19
              have hN39_3 := hN39.ext hDd19
              have hB10_3 := hB10.ext hDd19
              have hF41_3 := hF41.ext hDd19
              have hN41_3 := hN41.ext hDd19
              have hB11_3 := hB11.ext hDd19
              have hF43_3 := hF43.ext hDd19
              have hI43_3 := hI43.ext hDd19
              have hF61_3 := hF61.ext hDd19
              have hN61_3 := hN61.ext hDd19
              refine PW_m rfl rfl (ev_call rfl (eqNetwork_spec _ _ B _ hN41_3 hN66 (by omega))) ?_
              rintro _ w67 ⟨rfl, hE67⟩
              have hz67 := hE67.size
              replace hE := hE.trans hE67
              replace hDd19 := hDd19.trans hE67
              replace hF66 := hF66.ext hE67
              replace hN66 := hN66.ext hE67
              refine ⟨hDd19, ?_⟩
              refine PW_q rfl rfl (fun wq hq => ev_not rfl) ?_
              replace hA := hA.ext hDd19
              replace hB := hB.ext hDd19
              replace hf := hf.ext hDd19
              replace hB3 := hB3.ext hDd19
              replace hB4 := hB4.ext hDd19
              replace hF30 := hF30.ext hDd19
              replace hN30 := hN30.ext hDd19
              replace hF32 := hF32.ext hDd19
              replace hN32 := hN32.ext hDd19
              replace hF34 := hF34.ext hDd19
              replace hI34 := hI34.ext hDd19
              replace hF39 := hF39.ext hDd19
              replace hN39 := hN39.ext hDd19
              replace hB10 := hB10.ext hDd19
              replace hF41 := hF41.ext hDd19
              replace hN41 := hN41.ext hDd19
              replace hB11 := hB11.ext hDd19
              replace hF43 := hF43.ext hDd19
              replace hI43 := hI43.ext hDd19
              replace hF61 := hF61.ext hDd19
              replace hN61 := hN61.ext hDd19
              refine PW_nil ?_
              refine thenE_n ?_
              refine W_cond rfl (fun hg68 => ?_) (fun hg68 => ?_)
              · have hg67 := not_true hg68
                refine W_seq ?_
                refine W_region ?_
                refine WL_q rfl (ev_assign rfl) ?_
                refine WL_nil ?_
                refine thenE_n ?_
                refine W_ret ?_
                refine thenE_r ?_
                refine ret1 rfl rfl ?_
                first | (exact ⟨rfl, hE⟩) | (exact (bneE hg67 (hr48.det1 hr35)).elim) | (exact absurd (hr48.det1 hr35) hp67) | (exact absurd (hr48.det1 hr35) (of_decide_eq_false hg67)) | (exact (bneE hg67 (hr48.det2 hr35)).elim) | (exact absurd (hr48.det2 hr35) hp67) | (exact absurd (hr48.det2 hr35) (of_decide_eq_false hg67)) | (exact (bneE hg67 (hr48.det3 hr35)).elim) | (exact absurd (hr48.det3 hr35) hp67) | (exact absurd (hr48.det3 hr35) (of_decide_eq_false hg67)) | (exact (tfX hg67).elim) | (exact (decF hg67).elim) | (exfalso; omega)
              · have hg67 := not_false hg68
                refine W_skip ?_
                refine thenE_n ?_
                refine W_seq ?_
                refine W_seq ?_
                refine W_region ?_
                refine WL_q rfl (ev_move rfl) ?_
                refine WL_q rfl (ev_move rfl) ?_
                refine WL_m rfl (ev_call rfl (toIntS_spec _ _ f _ hf (by omega) (by omega))) ?_
                rintro _ w71 ⟨a71, rfl, hF71, hE71⟩
                have hz71 := hE71.size
                replace hE := hE.trans hE71
                replace hA := hA.ext hE71
                replace hB := hB.ext hE71
                replace hf := hf.ext hE71
                replace hB3 := hB3.ext hE71
                replace hB4 := hB4.ext hE71
                replace hF30 := hF30.ext hE71
                replace hN30 := hN30.ext hE71
                replace hF32 := hF32.ext hE71
                replace hN32 := hN32.ext hE71
                replace hF34 := hF34.ext hE71
                replace hI34 := hI34.ext hE71
                replace hF39 := hF39.ext hE71
                replace hN39 := hN39.ext hE71
                replace hB10 := hB10.ext hE71
                replace hF41 := hF41.ext hE71
                replace hN41 := hN41.ext hE71
                replace hB11 := hB11.ext hE71
                replace hF43 := hF43.ext hE71
                replace hI43 := hI43.ext hE71
                replace hF61 := hF61.ext hE71
                replace hN61 := hN61.ext hE71
                replace hF66 := hF66.ext hE71
                replace hN66 := hN66.ext hE71
                have hI71 := hF71.is
                refine WL_m rfl (ev_call rfl (eqIntS_spec _ _ _ _ f f _ hI43 hI71 (by omega))) ?_
                rintro _ w72 ⟨rfl, hE72⟩
                have hz72 := hE72.size
                replace hE := hE.trans hE72
                replace hA := hA.ext hE72
                replace hB := hB.ext hE72
                replace hf := hf.ext hE72
                replace hB3 := hB3.ext hE72
                replace hB4 := hB4.ext hE72
                replace hF30 := hF30.ext hE72
                replace hN30 := hN30.ext hE72
                replace hF32 := hF32.ext hE72
                replace hN32 := hN32.ext hE72
                replace hF34 := hF34.ext hE72
                replace hI34 := hI34.ext hE72
                replace hF39 := hF39.ext hE72
                replace hN39 := hN39.ext hE72
                replace hB10 := hB10.ext hE72
                replace hF41 := hF41.ext hE72
                replace hN41 := hN41.ext hE72
                replace hB11 := hB11.ext hE72
                replace hF43 := hF43.ext hE72
                replace hI43 := hI43.ext hE72
                replace hF61 := hF61.ext hE72
                replace hN61 := hN61.ext hE72
                replace hF66 := hF66.ext hE72
                replace hN66 := hN66.ext hE72
                replace hF71 := hF71.ext hE72
                replace hI71 := hI71.ext hE72
                refine WL_q rfl (ev_not rfl) ?_
                refine WL_nil ?_
                refine thenE_n ?_
                refine W_cond rfl (fun hg73 => ?_) (fun hg73 => ?_)
                · have hg72 := not_true hg73
                  refine W_seq ?_
                  refine W_region ?_
                  refine WL_q rfl (ev_assign rfl) ?_
                  refine WL_nil ?_
                  refine thenE_n ?_
                  refine W_ret ?_
                  refine thenE_r ?_
                  refine ret1 rfl rfl ?_
                  first | (exact ⟨rfl, hE⟩) | (exact (bneE hg72 (hr48.det1 hr35)).elim) | (exact absurd (hr48.det1 hr35) hp72) | (exact absurd (hr48.det1 hr35) (of_decide_eq_false hg72)) | (exact (bneE hg72 (hr48.det2 hr35)).elim) | (exact absurd (hr48.det2 hr35) hp72) | (exact absurd (hr48.det2 hr35) (of_decide_eq_false hg72)) | (exact (bneE hg72 (hr48.det3 hr35)).elim) | (exact absurd (hr48.det3 hr35) hp72) | (exact absurd (hr48.det3 hr35) (of_decide_eq_false hg72)) | (exact (tfX hg72).elim) | (exact (decF hg72).elim) | (exfalso; omega)
                · have hg72 := not_false hg73
                  refine W_skip ?_
                  refine thenE_n ?_
                  refine W_seq ?_
                  refine W_region ?_
                  refine WL_q rfl (ev_assign rfl) ?_
                  refine WL_nil ?_
                  refine thenE_n ?_
                  refine W_ret ?_
                  refine ret1 rfl rfl ?_
                  first | (exact ⟨rfl, hE⟩) | (exact (bneE hg72 (hr48.det1 hr35)).elim) | (exact absurd (hr48.det1 hr35) hp72) | (exact absurd (hr48.det1 hr35) (of_decide_eq_false hg72)) | (exact (bneE hg72 (hr48.det2 hr35)).elim) | (exact absurd (hr48.det2 hr35) hp72) | (exact absurd (hr48.det2 hr35) (of_decide_eq_false hg72)) | (exact (bneE hg72 (hr48.det3 hr35)).elim) | (exact absurd (hr48.det3 hr35) hp72) | (exact absurd (hr48.det3 hr35) (of_decide_eq_false hg72)) | (exact (tfX hg72).elim) | (exact (decF hg72).elim) | (exfalso; omega)

end Go.Proofs.Ytiagmcjhpckcaaa
