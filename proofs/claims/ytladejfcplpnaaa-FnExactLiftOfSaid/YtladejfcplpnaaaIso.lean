/- Contracts of IsIsomorphism, of the program and of the reference; the walk of its law. -/
import Derived.Test.YtladejfcplpnaaaStd
import Derived.Test.YtladejfcplpnaaaPortMap
import Derived.Test.YtladejfcplpnaaaBfs
namespace Go.Proofs.Ytladejfcplpnaaa
open Go Go.RowKit

/-- f has the numbers 0 to n - 1, each once. -/
def IsPerm (f : List Int) (n : Int) : Prop := (f.length : Int) = n ∧ (∀ x ∈ f, 0 ≤ x ∧ x ≤ n - 1) ∧ f.Nodup
theorem perm_of {f : List Int} {n : Int} (hl : (f.length : Int) = n) (h : ∀ j (_h : j < f.length) (h2 : j < f.length), (0 ≤ f[j] ∧ f[j] ≤ n - 1) ∧ f[j] ∉ f.take j) : IsPerm f n :=
  ⟨hl, fun x hx => by obtain ⟨j, hj, rfl⟩ := List.mem_iff_getElem.1 hx; exact (h j hj hj).1, nodup_take fun j hj => (h j hj hj).2⟩
structure SeenB (f : List Int) (i n : Nat) (bs : List Bool) : Prop where
  len : bs.length = n
  on : ∀ k (h : k < bs.length), bs[k] = true ↔ (k : Int) ∈ f.take i
theorem SeenB.zero (f : List Int) (n : Nat) : SeenB f 0 n (List.replicate n false) := ⟨by simp, fun k h => by simp⟩
theorem SeenB.step {f : List Int} {i n : Nat} {bs : List Bool} (h : SeenB f i n bs) (hi : i < f.length) (h0 : 0 ≤ f[i]) (hn : f[i].toNat < n) : SeenB f (i + 1) n (bs.set f[i].toNat true) := by
  refine ⟨by simp [h.len], fun k hk => ?_⟩
  rw [List.take_succ_eq_append_getElem hi, List.mem_append, List.mem_singleton, List.getElem_set]
  split
  · rename_i e; simp only [true_iff]; right; omega
  · rename_i e
    rw [h.on k (by simpa using hk)]
    exact ⟨.inl, fun hk' => hk'.elim id fun e2 => absurd (by omega) e⟩
theorem boolmk {w : World} {b n : Nat} {T : TypeId} (h : Blk w b T (List.replicate n (VB false))) : Blk w b T ((List.replicate n false).map VB) := by rw [List.map_replicate]; exact h
def sameId (A B : Net) (f : List Int) (v : Nat) : Prop := 0 < A.ids.length → A.ids.getD v 0 = B.ids.getD (f.getD v 0).toNat 0
structure IsIso (A B : Net) (f : List Int) : Prop where
  nodes : A.ends.length = B.ends.length
  ids : A.ids.length = B.ids.length
  perm : IsPerm f A.ends.length
  pm : IsPM A B f
  same : ∀ v (_h : v < f.length), sameId A B f v
theorem NOk.idl {A : Net} (h : NOk A) : A.ids.length = 0 ∨ (A.ids.length : Int) = A.ends.length := h.ids.imp id (·.1)
theorem bne_dec {p q : Prop} [Decidable p] [Decidable q] (h : (decide p != decide q) = true) : ¬ (p ↔ q) := by
  intro e; by_cases hp : p <;> simp [hp, e.symm] at h <;> simp [e.1 hp] at h
theorem beq_dec' {p q : Prop} [Decidable p] [Decidable q] (h : (decide p != decide q) = false) : p ↔ q := by
  by_cases hp : p <;> by_cases hq : q <;> simp [hp, hq] at h ⊢
theorem perm_rng {f : List Int} {n : Nat} (h : IsPerm f n) : allR f 0 ((n : Int) - 1) = true := allR_true.2 h.2.1
theorem sameId_at {A B : Net} {f : List Int} {v : Nat} (hv : v < f.length) {h1 : v < A.ids.length} {h2 : f[v].toNat < B.ids.length} : sameId A B f v ↔ A.ids[v] = B.ids[f[v].toNat] := by
  unfold sameId
  rw [getD_eq hv, getD_eq h1, getD_eq h2]
  exact ⟨fun h => h (by omega), fun h _ => h⟩

set_option maxRecDepth 100000 in
theorem nePerm_spec {lo hi : Nat} (a : Option Addr) (c : Nat) (f : List Int) (n : Nat) (w : World) (hf : Ints lo hi w a c f) (hm : f.length ≤ 1048576) (hn : n ≤ 1048576) :
    Fn Try.prog 29 #[.slice a f.length c, VI (n : Int)] w (fun v w' => ∃ b, v = VB b ∧ (b = true ↔ IsPerm f n) ∧ Ext w w') := by
  have hcap := hf.cap
  have hE := Ext.refl w
  refine Fn_of Try.func29 rfl rfl (by kernel_rfl) rfl ?_
  refine W_seq ?_
  refine W_region ?_
  refine WL_q rfl (ev_assign rfl) ?_
  refine WL_nil ?_
  refine thenE_n ?_
  refine W_seq ?_
  refine W_seq ?_
  refine W_region ?_
  refine WL_q rfl (ev_move rfl) ?_
  refine WL_q rfl (ev_len Try.underlying23 rfl) ?_
  refine WL_q rfl (ev_move rfl) ?_
  refine WL_nil ?_
  refine thenE_n ?_
  refine W_block ?_
  refine W_loopC (G := Nat) [(0, _), (1, _), (7, _), (8, _)] ((Subs.c rfl (Subs.c rfl (Subs.c rfl (Subs.c rfl Subs.n))))) (fun i => [(9, VI (i : Int))]) (fun i w' => Ext w w' ∧ i ≤ f.length ∧ ∀ j (_h : j < i) (h2 : j < f.length), (0 ≤ f[j] ∧ f[j] ≤ (n : Int) - 1) ∧ f[j] ∉ f.take j) (fun i => f.length - i) 0 ((Subs.c (lkI rfl (by omega)) Subs.n)) (⟨Ext.refl _, ⟨by omega, fun j h => by omega⟩⟩) ?_
  rintro i wL0 ⟨hRL0, hi', hJ⟩
  have hzL0 := hRL0.size
  replace hE := hE.trans hRL0
  replace hf := hf.ext hRL0
  refine W_seq ?_
  refine W_region ?_
  refine WL_q rfl (ev_lss rfl rfl) ?_
  refine WL_nil ?_
  refine thenE_n ?_
  refine W_seq ?_
  refine W_cond rfl (fun hg10 => ?_) (fun hg10 => ?_)
  · have hp10 := of_decide_eq_true hg10
    refine W_skip ?_
    refine thenE_n ?_
    refine W_seq ?_
    refine W_block ?_
    refine W_seq ?_
    refine W_region ?_
    refine WL_q rfl (ev_move rfl) ?_
    have hlt : i < f.length := by omega
    refine WL_q rfl (ev_indexAddr Try.underlying23 sz3 rfl rfl (hf.isSome (by omega)) (by omega) (by omega)) ?_
    refine WL_q rfl (ev_load one3 rfl (hf.cell (i := i) (by omega))) ?_
    refine WL_q rfl (ev_assign rfl) ?_
    refine WL_q rfl (ev_assign rfl) ?_
    refine WL_nil ?_
    refine thenE_n ?_
    refine W_seq ?_
    refine W_region ?_
    refine WL_q rfl (ev_move rfl) ?_
    refine WL_q rfl (ev_move rfl) ?_
    refine WL_q rfl (ev_sub rfl rfl (by omega)) ?_
    refine WL_m rfl (ev_call rfl (l1In_spec _ _ _ _)) ?_
    rintro _ _ ⟨rfl, rfl⟩
    refine WL_q rfl (ev_not rfl) ?_
    refine WL_q rfl (ev_move rfl) ?_
    refine WL_splitv (t := 19) rfl (fun hg18 => ?_) (fun hg18 => ?_)
    · have hg17 := not_true hg18
      have hp17 := inR_false.1 hg17
      refine WL_no rfl rfl hg18 rfl ?_
      refine WL_no rfl rfl hg18 rfl ?_
      refine WL_no rfl rfl hg18 rfl ?_
      refine WL_no rfl rfl hg18 rfl ?_
      refine WL_no rfl rfl hg18 rfl ?_
      refine WL_q rfl (ev_pick_t rfl hg18 rfl) ?_
      refine WL_nil ?_
      refine thenE_n ?_
      refine W_cond_t rfl ?_
      refine W_seq ?_
      refine W_region ?_
      refine WL_q rfl (ev_assign rfl) ?_
      refine WL_nil ?_
      refine thenE_n ?_
      refine W_ret ?_
      refine blockE_r ?_
      refine thenE_r ?_
      refine thenE_r ?_
      refine blockE_r ?_
      refine thenE_r ?_
      refine ret1 rfl rfl ?_
      first | (exact ⟨false, rfl, ffI fun hk => hp17 (hk.2.1 _ (List.getElem_mem hlt)), hE⟩) | (exact ⟨false, rfl, ffI fun hk => take_nodup hk.2.2 hlt hp24, hE⟩) | (exact ⟨_, rfl, ⟨fun ho => perm_of (of_decide_eq_true ho) fun j h1 h2 => hJ j (by omega) h2, fun hk => decide_eq_true hk.1⟩, hE⟩)
    · have hg17 := not_false hg18
      have hp17 := inR_true.1 hg17
      refine WL_qg rfl rfl hg18 rfl (ev_move rfl) ?_
      refine WL_qg rfl rfl hg18 rfl (ev_move rfl) ?_
      refine WL_qg rfl rfl hg18 rfl (ev_slice_hi Try.underlying23 sz3 rfl rfl (by omega) (by omega)) ?_
      refine WL_qg rfl rfl hg18 rfl (ev_move rfl) ?_
      refine WL_mg rfl rfl hg18 rfl (ev_call rfl (l1Has_spec _ _ (f.take i) _ _ (by simp; omega) (hf.take i) (by simp; omega))) ?_
      rintro _ w24 ⟨b24, rfl, hb24, hE24⟩
      have hz24 := hE24.size
      replace hE := hE.trans hE24
      replace hRL0 := hRL0.trans hE24
      replace hf := hf.ext hE24
      refine WL_q rfl (ev_pick_f rfl hg18 rfl) ?_
      refine WL_nil ?_
      refine thenE_n ?_
      refine W_cond rfl (fun hg24 => ?_) (fun hg24 => ?_)
      · have hp24 := hb24.1 hg24
        refine W_seq ?_
        refine W_region ?_
        refine WL_q rfl (ev_assign rfl) ?_
        refine WL_nil ?_
        refine thenE_n ?_
        refine W_ret ?_
        refine blockE_r ?_
        refine thenE_r ?_
        refine thenE_r ?_
        refine blockE_r ?_
        refine thenE_r ?_
        refine ret1 rfl rfl ?_
        first | (exact ⟨false, rfl, ffI fun hk => hp17 (hk.2.1 _ (List.getElem_mem hlt)), hE⟩) | (exact ⟨false, rfl, ffI fun hk => take_nodup hk.2.2 hlt hp24, hE⟩) | (exact ⟨_, rfl, ⟨fun ho => perm_of (of_decide_eq_true ho) fun j h1 h2 => hJ j (by omega) h2, fun hk => decide_eq_true hk.1⟩, hE⟩)
      · have hp24 := ttN hb24 hg24
        refine W_skip ?_
        refine blockE_n ?_
        refine thenE_n ?_
        refine W_region ?_
        refine WL_q rfl (ev_add rfl rfl (by omega)) ?_
        refine WL_q rfl (ev_move rfl) ?_
        refine WL_nil ?_
        refine thenE_n ?_
        exact ⟨i + 1, (Subs.c rfl (Subs.c rfl (Subs.c rfl (Subs.c rfl Subs.n)))), (Subs.c (lkI rfl (by omega)) Subs.n), ⟨hRL0, ⟨by omega, dsucc (P := fun j h2 => (0 ≤ f[j] ∧ f[j] ≤ (n : Int) - 1) ∧ f[j] ∉ f.take j) hJ hlt ⟨hp17, hp24⟩⟩⟩, by first | omega | (dsimp only; omega)⟩
  · have hp10 := of_decide_eq_false hg10
    refine W_exit ?_
    refine thenE_x ?_
    refine thenE_x ?_
    refine blockE_hit ?_
    refine thenE_n ?_
    refine W_seq ?_
    refine W_region ?_
    refine WL_q rfl (ev_move rfl) ?_
    refine WL_q rfl (ev_len Try.underlying23 rfl) ?_
    refine WL_q rfl (ev_move rfl) ?_
    refine WL_q rfl (ev_eql rfl rfl) ?_
    refine WL_q rfl (ev_assign rfl) ?_
    refine WL_nil ?_
    refine thenE_n ?_
    refine W_ret ?_
    refine ret1 rfl rfl ?_
    first | (exact ⟨false, rfl, ffI fun hk => hp17 (hk.2.1 _ (List.getElem_mem hlt)), hE⟩) | (exact ⟨false, rfl, ffI fun hk => take_nodup hk.2.2 hlt hp24, hE⟩) | (exact ⟨_, rfl, ⟨fun ho => perm_of (of_decide_eq_true ho) fun j h1 h2 => hJ j (by omega) h2, fun hk => decide_eq_true hk.1⟩, hE⟩)

set_option maxRecDepth 100000 in
theorem isPermutation_spec {lo hi : Nat} (a : Option Addr) (c : Nat) (f : List Int) (n : Nat) (w : World) (hf : Ints lo hi w a c f) (hhi : hi ≤ w.heap.size) (hm : f.length ≤ 1048576) (hn : n ≤ 1048576) :
    Fn Try.prog 35 #[.slice a f.length c, VI (n : Int)] w (fun v w' => ∃ b, v = VB b ∧ (b = true ↔ IsPerm f n) ∧ Ext w w') := by
  have hE := Ext.refl w
  refine Fn_of Try.func35 rfl rfl (by kernel_rfl) rfl ?_
  refine W_seq ?_
  refine W_region ?_
  refine WL_q rfl (ev_assign rfl) ?_
  refine WL_nil ?_
  refine thenE_n ?_
  refine W_seq ?_
  refine W_seq ?_
  refine W_region ?_
  refine WL_q rfl (ev_move rfl) ?_
  refine WL_q rfl (ev_len Try.underlying23 rfl) ?_
  refine WL_q rfl (ev_move rfl) ?_
  refine WL_q rfl (ev_neq rfl rfl) ?_
  refine WL_nil ?_
  refine thenE_n ?_
  refine W_cond rfl (fun hg11 => ?_) (fun hg11 => ?_)
  · have hp11 := of_decide_eq_true hg11
    refine W_seq ?_
    refine W_region ?_
    refine WL_q rfl (ev_assign rfl) ?_
    refine WL_nil ?_
    refine thenE_n ?_
    refine W_ret ?_
    refine thenE_r ?_
    refine ret1 rfl rfl ?_
    first | (exact ⟨false, rfl, ffI fun hk => hp11 hk.1, hE⟩) | (exact ⟨false, rfl, ffI fun hk => hp23 (hk.2.1 _ (List.getElem_mem hlt)), hE⟩) | (exact ⟨false, rfl, ffI fun hk => take_nodup hk.2.2 hlt (by have h8 := (hS.on f[i].toNat (by omega)).1 hg29; rw [Int.toNat_of_nonneg hr1] at h8; exact h8), hE⟩) | (exact ⟨_, rfl, ttI (perm_of (by omega) fun j h1 h2 => hJ j (by omega) h2), hE⟩)
  · have hp11 := of_decide_eq_false hg11
    refine W_skip ?_
    refine thenE_n ?_
    refine W_seq ?_
    refine W_region ?_
    refine WL_q rfl (ev_move rfl) ?_
    refine WL_m rfl (ev_makeN Try.underlying85 el4 rfl rfl rfl (by omega) (by omega)) ?_
    rintro _ w13 ⟨rfl, hN13⟩
    have hz13 := hN13.size
    replace hE := hE.trans hN13.ext
    replace hf := hf.ext hN13.ext
    have hB13 := hN13.blk
    replace hB13 := boolmk hB13
    refine WL_q rfl (ev_assign rfl) ?_
    refine WL_nil ?_
    refine thenE_n ?_
    refine W_seq ?_
    refine W_seq ?_
    refine W_region ?_
    refine WL_q rfl (ev_move rfl) ?_
    refine WL_q rfl (ev_len Try.underlying23 rfl) ?_
    refine WL_q rfl (ev_move rfl) ?_
    refine WL_nil ?_
    refine thenE_n ?_
    refine W_block ?_
    refine W_loopC (G := Nat × List Bool) [(1, _), (5, _), (14, _), (15, _)] ((Subs.c rfl (Subs.c rfl (Subs.c rfl (Subs.c rfl Subs.n))))) (fun ⟨i, bs⟩ => [(16, VI (i : Int))]) (fun ⟨i, bs⟩ w' => KX (w.heap.size) w13 w' ∧ i ≤ f.length ∧ Blk w' w.heap.size 4 (bs.map VB) ∧ SeenB f i n bs ∧ ∀ j (_h : j < i) (h2 : j < f.length), (0 ≤ f[j] ∧ f[j] ≤ (n : Int) - 1) ∧ f[j] ∉ f.take j) (fun g => f.length - g.1) (0, List.replicate n false) ((Subs.c (lkI rfl (by omega)) Subs.n)) (⟨KX.refl _ _, ⟨by omega, hB13, SeenB.zero f n, fun j h => by omega⟩⟩) ?_
    rintro ⟨i, bs⟩ wL0 ⟨hRL0, hi', hBs, hS, hJ⟩
    have hzL0 := hRL0.size
    replace hf := hf.kx hRL0 (by omega)
    replace hE := hE.kx hRL0 (by omega)
    have hbl := hS.len
    refine W_seq ?_
    refine W_region ?_
    refine WL_q rfl (ev_lss rfl rfl) ?_
    refine WL_nil ?_
    refine thenE_n ?_
    refine W_seq ?_
    refine W_cond rfl (fun hg17 => ?_) (fun hg17 => ?_)
    · have hp17 := of_decide_eq_true hg17
      refine W_skip ?_
      refine thenE_n ?_
      refine W_seq ?_
      refine W_block ?_
      refine W_seq ?_
      refine W_region ?_
      have hlt : i < f.length := by omega
      refine WL_q rfl (ev_indexAddr Try.underlying23 sz3 rfl rfl (hf.isSome (by omega)) (by omega) (by omega)) ?_
      refine WL_q rfl (ev_load one3 rfl (hf.cell (i := i) (by omega))) ?_
      refine WL_q rfl (ev_assign rfl) ?_
      refine WL_nil ?_
      refine thenE_n ?_
      refine W_seq ?_
      refine W_seq ?_
      refine W_region ?_
      refine WL_q rfl (ev_move rfl) ?_
      refine WL_q rfl (ev_move rfl) ?_
      refine WL_q rfl (ev_sub rfl rfl (by omega)) ?_
      refine WL_m rfl (ev_call rfl (within_spec _ _ _ _)) ?_
      rintro _ _ ⟨rfl, rfl⟩
      refine WL_q rfl (ev_not rfl) ?_
      refine WL_q rfl (ev_move rfl) ?_
      refine WL_splitv (t := 25) rfl (fun hg24 => ?_) (fun hg24 => ?_)
      · have hg23 := not_true hg24
        have hp23 := inR_false.1 hg23
        refine WL_no rfl rfl hg24 rfl ?_
        refine WL_no rfl rfl hg24 rfl ?_
        refine WL_no rfl rfl hg24 rfl ?_
        refine WL_no rfl rfl hg24 rfl ?_
        refine WL_q rfl (ev_pick_t rfl hg24 rfl) ?_
        refine WL_nil ?_
        refine thenE_n ?_
        refine W_cond_t rfl ?_
        refine W_seq ?_
        refine W_region ?_
        refine WL_q rfl (ev_assign rfl) ?_
        refine WL_nil ?_
        refine thenE_n ?_
        refine W_ret ?_
        refine thenE_r ?_
        refine blockE_r ?_
        refine thenE_r ?_
        refine thenE_r ?_
        refine blockE_r ?_
        refine thenE_r ?_
        refine ret1 rfl rfl ?_
        first | (exact ⟨false, rfl, ffI fun hk => hp11 hk.1, hE⟩) | (exact ⟨false, rfl, ffI fun hk => hp23 (hk.2.1 _ (List.getElem_mem hlt)), hE⟩) | (exact ⟨false, rfl, ffI fun hk => take_nodup hk.2.2 hlt (by have h8 := (hS.on f[i].toNat (by omega)).1 hg29; rw [Int.toNat_of_nonneg hr1] at h8; exact h8), hE⟩) | (exact ⟨_, rfl, ttI (perm_of (by omega) fun j h1 h2 => hJ j (by omega) h2), hE⟩)
      · have hg23 := not_false hg24
        have hp23 := inR_true.1 hg23
        refine WL_qg rfl rfl hg24 rfl (ev_move rfl) ?_
        refine WL_qg rfl rfl hg24 rfl (ev_move rfl) ?_
        have hr1 := hp23.1
        have hr2 := hp23.2
        refine WL_qg rfl rfl hg24 rfl (ev_indexAddr Try.underlying85 sz4 rfl rfl rfl (by omega) (by omega)) ?_
        refine WL_qg rfl rfl hg24 rfl (ev_load one4 rfl (bcell hBs (i := f[i].toNat) (by omega) (by omega))) ?_
        refine WL_q rfl (ev_pick_f rfl hg24 rfl) ?_
        refine WL_nil ?_
        refine thenE_n ?_
        refine W_cond rfl (fun hg29 => ?_) (fun hg29 => ?_)
        · refine W_seq ?_
          refine W_region ?_
          refine WL_q rfl (ev_assign rfl) ?_
          refine WL_nil ?_
          refine thenE_n ?_
          refine W_ret ?_
          refine thenE_r ?_
          refine blockE_r ?_
          refine thenE_r ?_
          refine thenE_r ?_
          refine blockE_r ?_
          refine thenE_r ?_
          refine ret1 rfl rfl ?_
          first | (exact ⟨false, rfl, ffI fun hk => hp11 hk.1, hE⟩) | (exact ⟨false, rfl, ffI fun hk => hp23 (hk.2.1 _ (List.getElem_mem hlt)), hE⟩) | (exact ⟨false, rfl, ffI fun hk => take_nodup hk.2.2 hlt (by have h8 := (hS.on f[i].toNat (by omega)).1 hg29; rw [Int.toNat_of_nonneg hr1] at h8; exact h8), hE⟩) | (exact ⟨_, rfl, ttI (perm_of (by omega) fun j h1 h2 => hJ j (by omega) h2), hE⟩)
        · refine W_skip ?_
          refine thenE_n ?_
          refine W_region ?_
          refine WL_q rfl (ev_move rfl) ?_
          refine WL_q rfl (ev_move rfl) ?_
          refine WL_q rfl (ev_indexAddr Try.underlying85 sz4 rfl rfl rfl (by omega) (by omega)) ?_
          refine WL_s (ev_store sz4 rfl rfl rfl hBs (by simp; omega)) ?_
          rintro _ w9_3 hS9_3
          have hz9_3 := hS9_3.size
          replace hE := hE.sto hS9_3 (by omega)
          replace hRL0 := hRL0.sto hS9_3 (by omega)
          replace hf := hf.sto hS9_3 (by omega)
          replace hBs := hS9_3.blk
          replace hBs := bset (i := f[i].toNat) (by omega) hBs
          refine WL_nil ?_
          refine blockE_n ?_
          refine thenE_n ?_
          refine W_region ?_
          refine WL_q rfl (ev_add rfl rfl (by omega)) ?_
          refine WL_q rfl (ev_move rfl) ?_
          refine WL_nil ?_
          refine thenE_n ?_
          exact ⟨(i + 1, bs.set f[i].toNat true), (Subs.c rfl (Subs.c rfl (Subs.c rfl (Subs.c rfl Subs.n)))), (Subs.c (lkI rfl (by omega)) Subs.n), ⟨hRL0, ⟨by omega, hBs, hS.step hlt hp23.1 (by omega), dsucc (P := fun j h2 => (0 ≤ f[j] ∧ f[j] ≤ (n : Int) - 1) ∧ f[j] ∉ f.take j) hJ hlt ⟨hp23, fun hm9 => by have h8 := (hS.on f[i].toNat (by omega)).2 (by rw [Int.toNat_of_nonneg hp23.1]; exact hm9); rw [h8] at hg29; cases hg29⟩⟩⟩, by first | omega | (dsimp only; omega)⟩
    · have hp17 := of_decide_eq_false hg17
      refine W_exit ?_
      refine thenE_x ?_
      refine thenE_x ?_
      refine blockE_hit ?_
      refine thenE_n ?_
      refine W_seq ?_
      refine W_region ?_
      refine WL_q rfl (ev_assign rfl) ?_
      refine WL_nil ?_
      refine thenE_n ?_
      refine W_ret ?_
      refine ret1 rfl rfl ?_
      first | (exact ⟨false, rfl, ffI fun hk => hp11 hk.1, hE⟩) | (exact ⟨false, rfl, ffI fun hk => hp23 (hk.2.1 _ (List.getElem_mem hlt)), hE⟩) | (exact ⟨false, rfl, ffI fun hk => take_nodup hk.2.2 hlt (by have h8 := (hS.on f[i].toNat (by omega)).1 hg29; rw [Int.toNat_of_nonneg hr1] at h8; exact h8), hE⟩) | (exact ⟨_, rfl, ttI (perm_of (by omega) fun j h1 h2 => hJ j (by omega) h2), hE⟩)

end Go.Proofs.Ytladejfcplpnaaa
