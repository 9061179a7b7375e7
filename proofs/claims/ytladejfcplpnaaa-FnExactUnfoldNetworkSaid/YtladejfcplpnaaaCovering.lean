/- Contracts of the fibres, of IsCovering and of SheetsOf, of the program and of the reference; the walks of FnExactIsCovering and FnExactSheetsOf. -/
import Derived.Test.YtladejfcplpnaaaPortMap
import Derived.Test.YtladejfcplpnaaaOrows
namespace Go.Proofs.Ytladejfcplpnaaa
open Go Go.RowKit

/-- The fibres of m over n nodes, after the first v places. -/
def fibsN (m : List Int) (n : Nat) : Nat → List (List Int)
  | 0 => List.replicate n []
  | v + 1 => match m[v]? with
    | some x => (fibsN m n v).set x.toNat ((fibsN m n v).getD x.toNat [] ++ [(v : Int)])
    | none => fibsN m n v
def fibs (m : List Int) (n : Nat) : List (List Int) := fibsN m n m.length
theorem fibsN_len (m : List Int) (n v : Nat) : (fibsN m n v).length = n := by
  induction v with
  | zero => simp [fibsN]
  | succ v ih => unfold fibsN; split <;> simp [ih]
theorem fibs_len (m : List Int) (n : Nat) : (fibs m n).length = n := fibsN_len m n _
theorem fibsN_succ {m : List Int} {n v : Nat} (h : v < m.length) (h2 : m[v].toNat < (fibsN m n v).length) : fibsN m n (v + 1) = (fibsN m n v).set m[v].toNat ((fibsN m n v)[m[v].toNat] ++ [(v : Int)]) := by
  rw [fibsN, List.getElem?_eq_getElem h]
  simp [List.getD, List.getElem?_eq_getElem h2]
theorem fibsN_row (m : List Int) (n v : Nat) : ∀ r ∈ fibsN m n v, r.length ≤ v := by
  induction v with
  | zero => intro r hr; simp [fibsN] at hr; simp [hr.2]
  | succ v ih =>
    intro r hr
    unfold fibsN at hr
    split at hr
    · rename_i x hx
      rcases List.mem_or_eq_of_mem_set hr with h | h
      · have := ih r h; omega
      · subst h
        have : ((fibsN m n v).getD x.toNat []).length ≤ v := by
          by_cases hb : x.toNat < (fibsN m n v).length
          · have := ih _ (List.getElem_mem hb)
            simpa [List.getD, List.getElem?_eq_getElem hb] using this
          · simp [List.getD, List.getElem?_eq_none (Nat.le_of_not_lt hb)]
        simp; simpa using this
    · have := ih r hr; omega
theorem own_snoc {lo : Nat} {w : World} {E : TypeId} {a : Option Addr} {n c : Nat} {xs : List Int} {x : Int} (h : Own lo w E 1 a n c (xs.flatMap intF ++ [VI x])) : Own lo w E 1 a n c ((xs ++ [x]).flatMap intF) := by
  rw [List.flatMap_append]; exact h
theorem Own.sto {lo : Nat} {w w' : World} {E : TypeId} {sz : Nat} {a : Option Addr} {n c : Nat} {cs : List Value} {b : Nat} {T : TypeId} {ds : List Value} (h : Own lo w E sz a n c cs) (k : Sto w w' b T ds) (hb : b < lo) : Own lo w' E sz a n c cs :=
  h.keep k.keep fun q hq => by have := (h.block q hq).1; show q.block ≠ b; omega
/-- No fibre is empty. -/
def onto (m : List Int) (n : Nat) : Bool := !((fibs m n).any fun r => decide ((r.length : Int) = 0))
theorem onto_no {m : List Int} {n i : Nat} (h : i < (fibs m n).length) (h0 : (((fibs m n)[i]).length : Int) = 0) : false = onto m n := by
  have : (fibs m n).any (fun r => decide ((r.length : Int) = 0)) = true := List.any_eq_true.2 ⟨_, List.getElem_mem h, by simpa using h0⟩
  unfold onto; rw [this]; rfl
theorem onto_yes {m : List Int} {n : Nat} (h : ∀ j (h2 : j < (fibs m n).length), (((fibs m n)[j]).length : Int) ≠ 0) : true = onto m n := by
  have : (fibs m n).any (fun r => decide ((r.length : Int) = 0)) = false := by
    rw [List.any_eq_false]
    intro r hr
    obtain ⟨j, hj, rfl⟩ := List.mem_iff_getElem.1 hr
    simpa using h j hj
  unfold onto; rw [this]; rfl

set_option maxRecDepth 100000 in
theorem coAsked_spec {lo hi lo2 hi2 lo3 hi3 : Nat} (ha hb : NA) (A B : Net) (a : Option Addr) (c : Nat) (m : List Int) (w : World) (hA : IsNet lo hi w ha A) (hB : IsNet lo2 hi2 w hb B) (hx : Ints lo3 hi3 w a c m) (hhi : hi ≤ w.heap.size) (hhi2 : hi2 ≤ w.heap.size) (hhi3 : hi3 ≤ w.heap.size) (hnA : totN A ≤ 1048576) (hnB : totN B ≤ 1048576) (hm : m.length ≤ 1048576) :
    Fn Try.prog 42 #[netV ha A, netV hb B, .slice a m.length c] w (fun v w' => ∃ b, v = VB b ∧ (b = true ↔ (NOk A ∧ NOk B ∧ IsPM A B m)) ∧ Ext w w') := by
  have hE := Ext.refl w
  refine Fn_of Try.func42 rfl rfl (by kernel_rfl) rfl ?_
  refine W_seq ?_
  refine W_region ?_
  refine WL_m rfl (ev_box rfl) ?_
  rintro _ w3 ⟨rfl, hN3⟩
  have hz3 := hN3.size
  replace hE := hE.trans hN3.ext
  replace hA := hA.ext hN3.ext
  replace hB := hB.ext hN3.ext
  replace hx := hx.ext hN3.ext
  have hB3 : Blk w3 _ _ [_, _, _] := hN3.blk
  refine WL_m rfl (ev_box rfl) ?_
  rintro _ w4 ⟨rfl, hN4⟩
  have hz4 := hN4.size
  replace hE := hE.trans hN4.ext
  replace hA := hA.ext hN4.ext
  replace hB := hB.ext hN4.ext
  replace hx := hx.ext hN4.ext
  replace hB3 := hB3.ext hN4.ext
  have hB4 : Blk w4 _ _ [_, _, _] := hN4.blk
  refine WL_q rfl (ev_assign rfl) ?_
  refine WL_nil ?_
  refine thenE_n ?_
  refine W_seq ?_
  refine W_region ?_
  refine WL_q rfl (ev_loads st31 sz31 rfl (cellsB hB3) rfl) ?_
  refine WL_m rfl (ev_call rfl (neGood_spec ha A _ hA (by omega) (by omega))) ?_
  rintro _ w8 ⟨b8, rfl, hb8, hE8⟩
  have hz8 := hE8.size
  replace hE := hE.trans hE8
  replace hA := hA.ext hE8
  replace hB := hB.ext hE8
  replace hx := hx.ext hE8
  replace hB3 := hB3.ext hE8
  replace hB4 := hB4.ext hE8
  refine WL_q rfl (ev_move rfl) ?_
  refine WL_splitv (t := 9) rfl (fun hg8 => ?_) (fun hg8 => ?_)
  · have hp8 := hb8.1 hg8
    refine WL_qg rfl rfl hg8 rfl (ev_loads st31 sz31 rfl (cellsB hB4) rfl) ?_
    refine WL_mg rfl rfl hg8 rfl (ev_call rfl (neGood_spec hb B _ hB (by omega) (by omega))) ?_
    rintro _ w11 ⟨b11, rfl, hb11, hE11⟩
    have hz11 := hE11.size
    replace hE := hE.trans hE11
    replace hA := hA.ext hE11
    replace hB := hB.ext hE11
    replace hx := hx.ext hE11
    replace hB3 := hB3.ext hE11
    replace hB4 := hB4.ext hE11
    refine WL_q rfl (ev_pick_t rfl hg8 rfl) ?_
    refine WL_q rfl (ev_move rfl) ?_
    refine WL_splitv (t := 13) rfl (fun hg11 => ?_) (fun hg11 => ?_)
    · have hp11 := hb11.1 hg11
      refine WL_qg rfl rfl hg11 rfl (ev_loads st31 sz31 rfl (cellsB hB3) rfl) ?_
      refine WL_qg rfl rfl hg11 rfl (ev_loads st31 sz31 rfl (cellsB hB4) rfl) ?_
      refine WL_qg rfl rfl hg11 rfl (ev_move rfl) ?_
      refine WL_mg rfl rfl hg11 rfl (ev_call rfl (coMap_spec ha hb A B _ _ m _ hA hB hx (by omega) (by omega) (by omega) (by omega) (by omega) (by omega) hp8 hp11)) ?_
      rintro _ w17 ⟨b17, rfl, hb17, hE17⟩
      have hz17 := hE17.size
      replace hE := hE.trans hE17
      replace hA := hA.ext hE17
      replace hB := hB.ext hE17
      replace hx := hx.ext hE17
      replace hB3 := hB3.ext hE17
      replace hB4 := hB4.ext hE17
      refine WL_q rfl (ev_pick_t rfl hg11 rfl) ?_
      refine WL_q rfl (ev_assign rfl) ?_
      refine WL_nil ?_
      refine thenE_n ?_
      refine W_ret ?_
      refine ret1 rfl rfl ?_
      first | (exact ⟨_, rfl, ⟨fun ho => ⟨hp8, hp11, hb17.1 ho⟩, fun hk => hb17.2 hk.2.2⟩, hE⟩) | (exact ⟨_, rfl, ffI fun hk => hp8 hk.1, hE⟩) | (exact ⟨_, rfl, ffI fun hk => hp11 hk.2.1, hE⟩)
    · have hp11 := ttN hb11 hg11
      refine WL_no rfl rfl hg11 rfl ?_
      refine WL_no rfl rfl hg11 rfl ?_
      refine WL_no rfl rfl hg11 rfl ?_
      refine WL_no rfl rfl hg11 rfl ?_
      refine WL_q rfl (ev_pick_f rfl hg11 rfl) ?_
      refine WL_q rfl (ev_assign rfl) ?_
      refine WL_nil ?_
      refine thenE_n ?_
      refine W_ret ?_
      refine ret1 rfl rfl ?_
      first | (exact ⟨_, rfl, ⟨fun ho => ⟨hp8, hp11, hb17.1 ho⟩, fun hk => hb17.2 hk.2.2⟩, hE⟩) | (exact ⟨_, rfl, ffI fun hk => hp8 hk.1, hE⟩) | (exact ⟨_, rfl, ffI fun hk => hp11 hk.2.1, hE⟩)
  · have hp8 := ttN hb8 hg8
    refine WL_no rfl rfl hg8 rfl ?_
    refine WL_no rfl rfl hg8 rfl ?_
    refine WL_q rfl (ev_pick_f rfl hg8 rfl) ?_
    refine WL_q rfl (ev_move rfl) ?_
    refine WL_no rfl rfl rfl rfl ?_
    refine WL_no rfl rfl rfl rfl ?_
    refine WL_no rfl rfl rfl rfl ?_
    refine WL_no rfl rfl rfl rfl ?_
    refine WL_q rfl (ev_pick_f rfl rfl rfl) ?_
    refine WL_q rfl (ev_assign rfl) ?_
    refine WL_nil ?_
    refine thenE_n ?_
    refine W_ret ?_
    refine ret1 rfl rfl ?_
    first | (exact ⟨_, rfl, ⟨fun ho => ⟨hp8, hp11, hb17.1 ho⟩, fun hk => hb17.2 hk.2.2⟩, hE⟩) | (exact ⟨_, rfl, ffI fun hk => hp8 hk.1, hE⟩) | (exact ⟨_, rfl, ffI fun hk => hp11 hk.2.1, hE⟩)

set_option maxRecDepth 100000 in
theorem mapOk_spec {lo hi lo2 hi2 lo3 hi3 : Nat} (ha hb : NA) (A B : Net) (a : Option Addr) (c : Nat) (m : List Int) (w : World) (hA : IsNet lo hi w ha A) (hB : IsNet lo2 hi2 w hb B) (hx : Ints lo3 hi3 w a c m) (hhi : hi ≤ w.heap.size) (hhi2 : hi2 ≤ w.heap.size) (hhi3 : hi3 ≤ w.heap.size) (hnA : totN A ≤ 1048576) (hnB : totN B ≤ 1048576) (hm : m.length ≤ 1048576) :
    Fn Try.prog 44 #[netV ha A, netV hb B, .slice a m.length c] w (fun v w' => ∃ b, v = VB b ∧ (b = true ↔ (NOk A ∧ NOk B ∧ IsPM A B m)) ∧ Ext w w') := by
  have hE := Ext.refl w
  refine Fn_of Try.func44 rfl rfl (by kernel_rfl) rfl ?_
  refine W_seq ?_
  refine W_region ?_
  refine WL_m rfl (ev_box rfl) ?_
  rintro _ w3 ⟨rfl, hN3⟩
  have hz3 := hN3.size
  replace hE := hE.trans hN3.ext
  replace hA := hA.ext hN3.ext
  replace hB := hB.ext hN3.ext
  replace hx := hx.ext hN3.ext
  have hB3 : Blk w3 _ _ [_, _, _] := hN3.blk
  refine WL_m rfl (ev_box rfl) ?_
  rintro _ w4 ⟨rfl, hN4⟩
  have hz4 := hN4.size
  replace hE := hE.trans hN4.ext
  replace hA := hA.ext hN4.ext
  replace hB := hB.ext hN4.ext
  replace hx := hx.ext hN4.ext
  replace hB3 := hB3.ext hN4.ext
  have hB4 : Blk w4 _ _ [_, _, _] := hN4.blk
  refine WL_q rfl (ev_assign rfl) ?_
  refine WL_nil ?_
  refine thenE_n ?_
  refine W_seq ?_
  refine W_region ?_
  refine WL_q rfl (ev_loads st31 sz31 rfl (cellsB hB3) rfl) ?_
  refine WL_m rfl (ev_call rfl (IsNetwork_spec ha A _ hA (by omega) (by omega))) ?_
  rintro _ w8 ⟨b8, rfl, hb8, hE8⟩
  have hz8 := hE8.size
  replace hE := hE.trans hE8
  replace hA := hA.ext hE8
  replace hB := hB.ext hE8
  replace hx := hx.ext hE8
  replace hB3 := hB3.ext hE8
  replace hB4 := hB4.ext hE8
  refine WL_q rfl (ev_move rfl) ?_
  refine WL_splitv (t := 9) rfl (fun hg8 => ?_) (fun hg8 => ?_)
  · have hp8 := hb8.1 hg8
    refine WL_qg rfl rfl hg8 rfl (ev_loads st31 sz31 rfl (cellsB hB4) rfl) ?_
    refine WL_mg rfl rfl hg8 rfl (ev_call rfl (IsNetwork_spec hb B _ hB (by omega) (by omega))) ?_
    rintro _ w11 ⟨b11, rfl, hb11, hE11⟩
    have hz11 := hE11.size
    replace hE := hE.trans hE11
    replace hA := hA.ext hE11
    replace hB := hB.ext hE11
    replace hx := hx.ext hE11
    replace hB3 := hB3.ext hE11
    replace hB4 := hB4.ext hE11
    refine WL_q rfl (ev_pick_t rfl hg8 rfl) ?_
    refine WL_q rfl (ev_move rfl) ?_
    refine WL_splitv (t := 13) rfl (fun hg11 => ?_) (fun hg11 => ?_)
    · have hp11 := hb11.1 hg11
      refine WL_qg rfl rfl hg11 rfl (ev_loads st31 sz31 rfl (cellsB hB3) rfl) ?_
      refine WL_qg rfl rfl hg11 rfl (ev_loads st31 sz31 rfl (cellsB hB4) rfl) ?_
      refine WL_qg rfl rfl hg11 rfl (ev_move rfl) ?_
      refine WL_mg rfl rfl hg11 rfl (ev_call rfl (isPortMap_spec ha hb A B _ _ m _ hA hB hx (by omega) (by omega) (by omega) (by omega) (by omega) (by omega) hp8 hp11)) ?_
      rintro _ w17 ⟨b17, rfl, hb17, hE17⟩
      have hz17 := hE17.size
      replace hE := hE.trans hE17
      replace hA := hA.ext hE17
      replace hB := hB.ext hE17
      replace hx := hx.ext hE17
      replace hB3 := hB3.ext hE17
      replace hB4 := hB4.ext hE17
      refine WL_q rfl (ev_pick_t rfl hg11 rfl) ?_
      refine WL_q rfl (ev_assign rfl) ?_
      refine WL_nil ?_
      refine thenE_n ?_
      refine W_ret ?_
      refine ret1 rfl rfl ?_
      first | (exact ⟨_, rfl, ⟨fun ho => ⟨hp8, hp11, hb17.1 ho⟩, fun hk => hb17.2 hk.2.2⟩, hE⟩) | (exact ⟨_, rfl, ffI fun hk => hp8 hk.1, hE⟩) | (exact ⟨_, rfl, ffI fun hk => hp11 hk.2.1, hE⟩)
    · have hp11 := ttN hb11 hg11
      refine WL_no rfl rfl hg11 rfl ?_
      refine WL_no rfl rfl hg11 rfl ?_
      refine WL_no rfl rfl hg11 rfl ?_
      refine WL_no rfl rfl hg11 rfl ?_
      refine WL_q rfl (ev_pick_f rfl hg11 rfl) ?_
      refine WL_q rfl (ev_assign rfl) ?_
      refine WL_nil ?_
      refine thenE_n ?_
      refine W_ret ?_
      refine ret1 rfl rfl ?_
      first | (exact ⟨_, rfl, ⟨fun ho => ⟨hp8, hp11, hb17.1 ho⟩, fun hk => hb17.2 hk.2.2⟩, hE⟩) | (exact ⟨_, rfl, ffI fun hk => hp8 hk.1, hE⟩) | (exact ⟨_, rfl, ffI fun hk => hp11 hk.2.1, hE⟩)
  · have hp8 := ttN hb8 hg8
    refine WL_no rfl rfl hg8 rfl ?_
    refine WL_no rfl rfl hg8 rfl ?_
    refine WL_q rfl (ev_pick_f rfl hg8 rfl) ?_
    refine WL_q rfl (ev_move rfl) ?_
    refine WL_no rfl rfl rfl rfl ?_
    refine WL_no rfl rfl rfl rfl ?_
    refine WL_no rfl rfl rfl rfl ?_
    refine WL_no rfl rfl rfl rfl ?_
    refine WL_q rfl (ev_pick_f rfl rfl rfl) ?_
    refine WL_q rfl (ev_assign rfl) ?_
    refine WL_nil ?_
    refine thenE_n ?_
    refine W_ret ?_
    refine ret1 rfl rfl ?_
    first | (exact ⟨_, rfl, ⟨fun ho => ⟨hp8, hp11, hb17.1 ho⟩, fun hk => hb17.2 hk.2.2⟩, hE⟩) | (exact ⟨_, rfl, ffI fun hk => hp8 hk.1, hE⟩) | (exact ⟨_, rfl, ffI fun hk => hp11 hk.2.1, hE⟩)

/-- If it went well, the slice has the rows. -/
def OkRows (ok : Bool) (lo hi : Nat) (w : World) (E : TypeId) (a : Option Addr) (n' c' n : Nat) (xss : List (List Int)) : Prop := ok = true → n' = n ∧ c' = n ∧ ∃ b, a = some ⟨b, 0, none⟩ ∧ ORows intF 1 lo hi w E b xss
theorem OkRows.ext {ok : Bool} {lo hi : Nat} {w w' : World} {E : TypeId} {a : Option Addr} {n' c' n : Nat} {xss : List (List Int)} (h : OkRows ok lo hi w E a n' c' n xss) (k : Ext w w') : OkRows ok lo hi w' E a n' c' n xss := fun ho => by
  obtain ⟨h1, h2, b, h3, h4⟩ := h ho; exact ⟨h1, h2, b, h3, h4.ext k⟩
theorem OkRows.sto {ok : Bool} {lo hi : Nat} {w w' : World} {E : TypeId} {a : Option Addr} {n' c' n : Nat} {xss : List (List Int)} {b : Nat} {T : TypeId} {ds : List Value} (h : OkRows ok lo hi w E a n' c' n xss) (k : Sto w w' b T ds) (hb : b < lo ∨ hi ≤ b) : OkRows ok lo hi w' E a n' c' n xss := fun ho => by
  obtain ⟨h1, h2, b, h3, h4⟩ := h ho; exact ⟨h1, h2, b, h3, h4.sto k hb⟩

def SHC (A B : Net) (m : List Int) : Prop := (NOk A ∧ NOk B ∧ IsPM A B m) ∧ ∀ r ∈ fibs m B.ends.length, (r.length : Int) = (((fibs m B.ends.length).headD []).length : Int)
def SHR (A B : Net) (m : List Int) (r : Int) (q : Bool) : Prop := (SHC A B m ∧ r = (((fibs m B.ends.length).headD []).length : Int) ∧ q = true) ∨ (¬ SHC A B m ∧ r = 0 ∧ q = false)
theorem SHR.det1 {A B : Net} {m : List Int} {r r' : Int} {q q' : Bool} (h : SHR A B m r q) (k : SHR A B m r' q') : r = r' := by
  rcases h with ⟨h1, h2, h3⟩ | ⟨h1, h2, h3⟩ <;> rcases k with ⟨k1, k2, k3⟩ | ⟨k1, k2, k3⟩
  · omega
  · exact absurd h1 k1
  · exact absurd k1 h1
  · omega
theorem SHR.det2 {A B : Net} {m : List Int} {r r' : Int} {q q' : Bool} (h : SHR A B m r q) (k : SHR A B m r' q') : q = q' := by
  rcases h with ⟨h1, h2, h3⟩ | ⟨h1, h2, h3⟩ <;> rcases k with ⟨k1, k2, k3⟩ | ⟨k1, k2, k3⟩
  · rw [h3, k3]
  · exact absurd h1 k1
  · exact absurd k1 h1
  · rw [h3, k3]
theorem any_ne {xs : List (List Int)} {k : Int} (h : xs.any (fun r => decide ((r.length : Int) ≠ k)) = false) : ∀ r ∈ xs, (r.length : Int) = k := by
  intro r hr
  have := List.any_eq_false.1 h r hr
  simpa using this
theorem any_ne' {xs : List (List Int)} {k : Int} (h : xs.any (fun r => decide ((r.length : Int) ≠ k)) = true) (hk : ∀ r ∈ xs, (r.length : Int) = k) : False := by
  obtain ⟨r, hr, h2⟩ := List.any_eq_true.1 h
  exact (of_decide_eq_true h2) (hk r hr)

end Go.Proofs.Ytladejfcplpnaaa
