/- The copy of a network that impl.copyNetwork makes. -/
import Derived.Test.YtmdmpapdjgcchaaView2
import Derived.Test.YtmdmpapdjgcchaaRowsP
import Derived.Test.YtmdmpapdjgcchaaNets
import Derived.Test.YtmdmpapdjgcchaaDrawT
import Derived.Test.YtmdmpapdjgcchaaSort
namespace Go.Proofs.Ytmdmpapdjgcchaa
open Go Go.RowKit

theorem Pairs.nil_of_none {lo hi : Nat} {w : World} {a : Option Addr} {c : Nat} {xs : List (Int × Int)} (h : Pairs lo hi w a c xs) (ha : a.isNone = true) : xs = [] := by
  rcases Nat.eq_zero_or_pos xs.length with h0 | h0
  · exact List.eq_nil_of_length_eq_zero h0
  · have := h.isSome h0
    rw [this] at ha; cases ha
theorem own_zadd2 {lo : Nat} {w : World} {E : TypeId} {sz : Nat} {a : Option Addr} {n c : Nat} {ds : List Value} (h : Own lo w E sz a (0 + n) c (([] : List Value) ++ ds)) : Own lo w E sz a n c ds := by rw [Nat.zero_add] at h; exact h
/-- The rows that are copied so far. -/
def cpyN (xs : Ends) (i : Nat) : Ends := xs.take i ++ List.replicate (xs.length - i) []
theorem cpyN_len {xs : Ends} {i : Nat} (h : i ≤ xs.length) : (cpyN xs i).length = xs.length := by simp [cpyN]; omega
theorem cpyN_zero (xs : Ends) : cpyN xs 0 = List.replicate xs.length [] := by simp [cpyN]
theorem cpyN_full {xs : Ends} {i : Nat} (h : xs.length ≤ i) : cpyN xs i = xs := by simp [cpyN, List.take_of_length_le h, show xs.length - i = 0 by omega]
theorem cpyN_set {xs : Ends} {i : Nat} (h : i < xs.length) : (cpyN xs i).set i xs[i] = cpyN xs (i + 1) := by
  have e : xs.length - i = (xs.length - (i + 1)) + 1 := by omega
  unfold cpyN
  have e2 : i - (xs.take i).length = 0 := by simp; omega
  rw [e, List.replicate_succ, List.set_append_right _ _ (by simp; omega), e2, List.set_cons_zero, List.take_succ_eq_append_getElem h, List.append_assoc]
  rfl
section
variable {α : Type} {f : α → List Value} {sz lo hi : Nat} {w w' : World} {E : TypeId} {vs : List (Option Addr × Nat)} {xss : List (List α)}
theorem OwnAll.sto {b : Nat} {T : TypeId} {ds : List Value} (h : OwnAll f sz lo hi w E vs xss) (k : Sto w w' b T ds) (hb : b < lo ∨ hi ≤ b) : OwnAll f sz lo hi w' E vs xss := h.keep k.keep fun q h1 h2 => by show q ≠ b; omega
theorem OwnAll.kx {b : Nat} (h : OwnAll f sz lo hi w E vs xss) (k : KX b w w') (hb : (b < lo ∨ hi ≤ b) ∧ hi ≤ w.heap.size) : OwnAll f sz lo hi w' E vs xss := h.keep k fun q h1 h2 => ⟨by omega, by omega⟩
/-- A row is taken anew. -/
theorem OwnAll.put (h : OwnAll f sz lo hi w E vs xss) {i l2 : Nat} (hi1 : i < vs.length) {a' : Option Addr} {c' : Nat} {ys : List α} (o : Own l2 w E sz a' ys.length c' (ys.flatMap f)) (hl : lo ≤ l2) (hh : hi ≤ l2) (hw : hi ≤ w.heap.size) : OwnAll f sz lo w.heap.size w E (vs.set i (a', c')) (xss.set i ys) := by
  refine ⟨by simp [h.len], fun j h1 h2 => ?_, fun j h1 p hp => ?_, fun j1 j2 h1 h2 hne p q hp hq => ?_⟩
  · simp only [List.length_set] at h1 h2
    by_cases hj : j = i
    · subst hj; simp only [List.getElem_set_self]; exact o.mono hl
    · simp only [List.getElem_set_ne (Ne.symm hj)]; exact h.own j h1 h2
  · simp only [List.length_set] at h1
    by_cases hj : j = i
    · subst hj; simp only [List.getElem_set_self] at hp; exact (o.block p hp).2
    · simp only [List.getElem_set_ne (Ne.symm hj)] at hp
      have := h.top j h1 p hp; omega
  · simp only [List.length_set] at h1 h2
    by_cases hj1 : j1 = i
    · subst hj1
      simp only [List.getElem_set_self] at hp
      simp only [List.getElem_set_ne hne] at hq
      have := h.top j2 (by simpa using h2) q hq; have := (o.block p hp).1; omega
    · simp only [List.getElem_set_ne (Ne.symm hj1)] at hp
      by_cases hj2 : j2 = i
      · subst hj2
        simp only [List.getElem_set_self] at hq
        have := h.top j1 (by simpa using h1) p hp; have := (o.block q hq).1; omega
      · simp only [List.getElem_set_ne (Ne.symm hj2)] at hq
        exact h.sep j1 j2 h1 h2 hne p q hp hq
end
/-- An owned slice that is not empty, as a block. -/
theorem Own.open {lo n c sz : Nat} {w : World} {E : TypeId} {a : Option Addr} {cs : List Value} (h : Own lo w E sz a n c cs) (h0 : 0 < cs.length) : ∃ g rest, a = some ⟨g, 0, none⟩ ∧ lo ≤ g ∧ Blk w g E (cs ++ rest) ∧ n ≤ c ∧ c ≤ maxLen ∧ (cs ++ rest).length = c * sz ∧ cs.length = n * sz := by
  obtain ⟨hl, h⟩ := h
  rcases h with ⟨hv, hn⟩ | ⟨g, cap, cur, hv, hb, hg, h1, h2, h3, h4⟩
  · subst hn; rw [hl, Nat.zero_mul] at h0; omega
  · cases hv
    have e : cs ++ cur.toList.drop (n * sz) = cur.toList := by rw [← h4]; exact List.take_append_drop _ _
    refine ⟨g, cur.toList.drop (n * sz), rfl, hb, ?_, h1, h2, ?_, hl⟩
    · rw [e]; exact hg
    · rw [e]; simpa using h3
/-- A block's front, as an owned slice. -/
theorem Own.of_front {lo n c sz g : Nat} {w : World} {E : TypeId} {cs rest : List Value} (hB : Blk w g E (cs ++ rest)) (h1 : lo ≤ g) (h2 : n ≤ c) (h3 : c ≤ maxLen) (h4 : (cs ++ rest).length = c * sz) (h5 : cs.length = n * sz) : Own lo w E sz (some ⟨g, 0, none⟩) n c cs :=
  ⟨h5, .inr ⟨g, c, (cs ++ rest).toArray, rfl, h1, hB, h2, h3, by rw [List.size_toArray]; omega, by rw [← h5]; exact List.take_left⟩⟩
theorem pairCells_set1 {xs : List (Int × Int)} {k : Nat} {y : Int} (h : k < xs.length) : (pairCells xs).set (k * 2) (VI y) = pairCells (xs.set k (y, (xs[k]).2)) := by
  induction xs generalizing k with
  | nil => simp at h
  | cons x r ih =>
    obtain ⟨p, q⟩ := x
    cases k with
    | zero => rfl
    | succ k =>
      have h' : k < r.length := by simpa using h
      have := ih h'
      show (VI p :: VI q :: pairCells r).set ((k + 1) * 2) (VI y) = VI p :: VI q :: pairCells (r.set k (y, (r[k]).2))
      rw [show (k + 1) * 2 = k * 2 + 1 + 1 by omega, List.set_cons_succ, List.set_cons_succ, this]
theorem rowv_nils (n : Nat) : ((List.replicate n ((none : Option Addr), 0)).zip (List.replicate n ([] : List (Int × Int)))).map (fun p => rowVal p.1 p.2) = List.replicate n (.slice none 0 0) := by simp [List.zip_replicate, rowVal]
theorem rowv_set {vs : List (Option Addr × Nat)} {xss : Ends} {i j : Nat} {a' : Option Addr} {c' : Nat} {ys : List (Int × Int)} (e : j = i) : (((vs.zip xss).map fun p => rowVal p.1 p.2).set j (.slice a' ys.length c')) = ((vs.set i (a', c')).zip (xss.set i ys)).map fun p => rowVal p.1 p.2 := by
  subst e; rw [zip_set, List.map_set]; rfl
theorem OwnH.off {l r l' r' b n c sz : Nat} {w : World} {E : TypeId} {a : Option Addr} {cs : List Value} (h : OwnH l r 0 0 w E sz a n c cs) (hl : l' ≤ l) (hr : r ≤ r') (hb : b < l ∨ r ≤ b) : OwnH l' r' b (b + 1) w E sz a n c cs := ⟨h.1.mono hl, fun x hx => by have := h.2 x hx; have := (h.1.block x hx).1; omega⟩
/-- A network that has just been copied: the slice of its rows in block b, its numbers behind that, its rows from block p on. -/
structure CopyAt (l r b p : Nat) (w : World) (E F I : TypeId) (vs : List (Option Addr × Nat)) (h : NA) (A : Net) : Prop where
  pos : l ≤ b ∧ b < p ∧ p ≤ r
  adr : h.a1 = some ⟨b, 0, none⟩ ∧ h.c1 = A.ends.length
  out : Blk w b F ((vs.zip A.ends).map fun p => rowVal p.1 p.2)
  rows : OwnAll pairF 2 p r w E vs A.ends
  nums : ∃ m, l ≤ m ∧ m ≤ p ∧ OwnH l m b (b + 1) w I 1 h.a2 A.ids.length h.c2 (A.ids.map VI) ∧ OwnH m p b (b + 1) w I 1 h.a3 A.inputs.length h.c3 (A.inputs.map VI)
section
variable {l r b p : Nat} {w w' : World} {E F I : TypeId} {vs : List (Option Addr × Nat)} {h : NA} {A : Net}
theorem CopyAt.keep {G : Nat → Prop} (c : CopyAt l r b p w E F I vs h A) (k : Keep G w w') (hG : ∀ x, l ≤ x → x < r → G x) : CopyAt l r b p w' E F I vs h A := by
  have hp := c.pos
  obtain ⟨m, h1, h2, h3, h4⟩ := c.nums
  exact ⟨hp, c.adr, c.out.keep k (hG _ hp.1 (by omega)), c.rows.keep k fun x h5 h6 => hG x (by omega) h6, m, h1, h2, h3.keep k fun x h5 h6 => hG x h5 (by omega), h4.keep k fun x h5 h6 => hG x (by omega) (by omega)⟩
theorem CopyAt.ext (c : CopyAt l r b p w E F I vs h A) (k : Ext w w') : CopyAt l r b p w' E F I vs h A := by
  obtain ⟨m, h1, h2, h3, h4⟩ := c.nums
  exact ⟨c.pos, c.adr, c.out.ext k, c.rows.ext k, m, h1, h2, h3.ext k, h4.ext k⟩
theorem CopyAt.lo {x : Nat} (c : CopyAt l r b p w E F I vs h A) (k : Lo x w w') (hb : r ≤ x) : CopyAt l r b p w' E F I vs h A := c.keep k.2 fun y _ h2 => Nat.lt_of_lt_of_le h2 hb
theorem CopyAt.sto {g : Nat} {T : TypeId} {ds : List Value} (c : CopyAt l r b p w E F I vs h A) (k : Sto w w' g T ds) (hb : g < l ∨ r ≤ g) : CopyAt l r b p w' E F I vs h A := c.keep k.keep fun y h1 h2 => by show y ≠ g; omega
end
/-- A row's contents are changed in place. -/
theorem OwnAll.inpl {α : Type} {f : α → List Value} {sz lo hi : Nat} {w w' : World} {E T : TypeId} {vs : List (Option Addr × Nat)} {xss : List (List α)} (h : OwnAll f sz lo hi w E vs xss) {i g : Nat} (hi1 : i < vs.length) {ds : List Value} {ys : List α} (k : Sto w w' g T ds) (hv : vs[i].1 = some ⟨g, 0, none⟩) (o : Own lo w' E sz vs[i].1 ys.length vs[i].2 (ys.flatMap f)) : OwnAll f sz lo hi w' E vs (xss.set i ys) := by
  refine ⟨by simp [h.len], fun j h1 h2 => ?_, h.top, h.sep⟩
  by_cases hj : i = j
  · subst hj; simp only [List.getElem_set_self]; exact o
  · simp only [List.getElem_set_ne hj]
    exact (h.own j h1 (by simpa using h2)).keep k.keep fun q hq => h.sep j i h1 hi1 (Ne.symm hj) q _ hq hv

set_option maxRecDepth 100000 in
theorem Clone_end {lo hi : Nat} (a : Option Addr) (c : Nat) (xs : List (Int × Int)) (w : World) (hx : Pairs lo hi w a c xs) (hhi : hi ≤ w.heap.size) (hm : xs.length ≤ 1048576) :
    Fn Try.prog 91 #[.slice a xs.length c] w (fun v w' => ∃ a' c', v = .slice a' xs.length c' ∧ Own w.heap.size w' 71 2 a' xs.length c' (pairCells xs) ∧ Ext w w') := by
  have hE := Ext.refl w
  refine Fn_of Try.func91 rfl rfl (by kernel_rfl) rfl ?_
  refine W_seq ?_
  refine W_region ?_
  refine WL_q rfl (ev_assign rfl) ?_
  refine WL_nil ?_
  refine thenE_n ?_
  refine W_seq ?_
  refine W_seq ?_
  refine W_region ?_
  refine WL_q rfl (ev_move rfl) ?_
  refine WL_q rfl (ev_eql_nil Try.underlying69 rfl rfl) ?_
  refine WL_nil ?_
  refine thenE_n ?_
  refine W_cond rfl (fun hg4 => ?_) (fun hg4 => ?_)
  · refine W_seq ?_
    refine W_region ?_
    refine WL_q rfl (ev_assign rfl) ?_
    refine WL_nil ?_
    refine thenE_n ?_
    refine W_ret ?_
    refine thenE_r ?_
    refine ret1 rfl rfl ?_
    obtain rfl := Pairs.nil_of_none hx hg4; exact ⟨none, 0, rfl, Own.nil _ _ _ _, hE⟩
  · refine W_skip ?_
    refine thenE_n ?_
    refine W_seq ?_
    refine W_region ?_
    refine WL_m rfl (ev_lit0 Try.underlying69 el71) ?_
    rintro _ w5 ⟨rfl, hN5⟩
    have hz5 := hN5.size
    replace hE := hE.trans hN5.ext
    replace hx := hx.ext hN5.ext
    have hB5 := hN5.blk
    have hOz := Own.of_new (n := 0) (sz := 2) hN5 rfl (by decide)
    refine WL_q rfl (ev_move rfl) ?_
    refine WL_m rfl (ev_append Try.underlying69 el71 rfl (by decide) rfl rfl hOz hx.sat (pairCells_length _) (pairCells_one _) (by omega) (by unfold maxLen; omega) (by omega)) ?_
    rintro _ w7 ⟨a7, c7, rfl, hO7, hK7, hQ7⟩
    have hz7 := hK7.size
    replace hE := hE.app hK7 (fun q hq => (hOz.block q hq).1)
    replace hx := hx.app hK7 (hOz) (by omega)
    replace hOz := hO7
    refine WL_q rfl (ev_assign rfl) ?_
    refine WL_nil ?_
    refine thenE_n ?_
    refine W_ret ?_
    refine ret1 rfl rfl ?_
    exact ⟨a7, c7, by rw [Nat.zero_add], own_zadd2 hOz, hE⟩

set_option maxRecDepth 100000 in
theorem l1Own_own {lo hi : Nat} (a : Option Addr) (c : Nat) (xs : List Int) (w : World) (hx : Ints lo hi w a c xs) (hhi : hi ≤ w.heap.size) (hm : xs.length ≤ 1048576) :
    Fn Try.prog 87 #[.slice a xs.length c] w (fun v w' => ∃ a' c', v = .slice a' xs.length c' ∧ Own w.heap.size w' 3 1 a' xs.length c' (xs.map VI) ∧ Ext w w') := by
  have hE := Ext.refl w
  refine Fn_of Try.func87 rfl rfl (by kernel_rfl) rfl ?_
  refine W_seq ?_
  refine W_region ?_
  refine WL_q rfl (ev_assign rfl) ?_
  refine WL_nil ?_
  refine thenE_n ?_
  refine W_seq ?_
  refine W_region ?_
  refine WL_m rfl (ev_lit0 Try.underlying23 el3) ?_
  rintro _ w3 ⟨rfl, hN3⟩
  have hz3 := hN3.size
  replace hE := hE.trans hN3.ext
  replace hx := hx.ext hN3.ext
  have hB3 := hN3.blk
  have hOz := Own.of_new (n := 0) (sz := 1) hN3 rfl (by decide)
  refine WL_q rfl (ev_move rfl) ?_
  refine WL_m rfl (ev_append Try.underlying23 el3 rfl (by decide) rfl rfl hOz hx.sat (by simp) (by simp [Value.oneCell']) (by omega) (by unfold maxLen; omega) (by omega)) ?_
  rintro _ w5 ⟨a5, c5, rfl, hO5, hK5, hQ5⟩
  have hz5 := hK5.size
  replace hE := hE.app hK5 (fun q hq => (hOz.block q hq).1)
  replace hx := hx.app hK5 (hOz) (by omega)
  replace hOz := hO5
  refine WL_q rfl (ev_assign rfl) ?_
  refine WL_nil ?_
  refine thenE_n ?_
  refine W_ret ?_
  refine ret1 rfl rfl ?_
  exact ⟨a5, c5, by rw [Nat.zero_add], own_zadd hOz, hE⟩

set_option maxHeartbeats 4000000 in
set_option maxRecDepth 100000 in
theorem copyNetwork_spec {loA hiA : Nat} (nA : NA) (A : Net) (w : World) (hA : IsNet loA hiA w nA A) (hhiA : hiA ≤ w.heap.size) (hnA : totN A ≤ 1048576) :
    Fn Try.prog 55 #[netV nA A] w (fun o9 w' => ∃ b p vs h', o9 = netV h' A ∧ CopyAt w.heap.size w'.heap.size b p w' 71 69 3 vs h' A ∧ Ext w w') := by
  have hqA := totL_len A.ends
  have hmA : totL A.ends + A.ids.length + A.inputs.length ≤ 1048576 := hnA
  have hE := Ext.refl w
  refine Fn_of Try.func55 rfl rfl (by kernel_rfl) rfl ?_
  refine W_seq ?_
  refine W_region ?_
  refine WL_m rfl (ev_box rfl) ?_
  rintro _ w1 ⟨rfl, hN1⟩
  have hz1 := hN1.size
  replace hE := hE.trans hN1.ext
  replace hA := hA.ext hN1.ext
  have hB1 : Blk w1 _ _ [_, _, _] := hN1.blk
  refine WL_m rfl (ev_alloc zr29) ?_
  rintro _ w2 ⟨rfl, hN2⟩
  have hz2 := hN2.size
  replace hE := hE.trans hN2.ext
  replace hA := hA.ext hN2.ext
  replace hB1 := hB1.ext hN2.ext
  have hB2 : Blk w2 _ _ [_, _, _] := hN2.blk
  refine WL_nil ?_
  refine thenE_n ?_
  refine W_seq ?_
  refine W_drawT (X := Nat × Nat × Nat × Option Addr × Nat × Option Addr × Nat) (fun x => [(3, ptr x.1 0)]) (fun x w' => (w2.heap.size ≤ x.1 ∧ x.1 < w'.heap.size ∧ w2.heap.size ≤ x.2.1 ∧ x.2.1 < w'.heap.size ∧ x.1 ≠ x.2.1 ∧ w2.heap.size ≤ x.2.2.1 ∧ x.2.2.1 ≤ w'.heap.size) ∧ Blk w' x.1 29 [.slice (some ⟨x.2.1, 0, none⟩) A.ends.length A.ends.length, .slice x.2.2.2.1 A.ids.length x.2.2.2.2.1, .slice x.2.2.2.2.2.1 A.inputs.length x.2.2.2.2.2.2] ∧ Blk w' x.2.1 69 (List.replicate A.ends.length (.slice none 0 0)) ∧ OwnH w2.heap.size x.2.2.1 x.2.1 (x.2.1 + 1) w' 3 1 x.2.2.2.1 A.ids.length x.2.2.2.2.1 (A.ids.map VI) ∧ OwnH x.2.2.1 w'.heap.size x.2.1 (x.2.1 + 1) w' 3 1 x.2.2.2.2.2.1 A.inputs.length x.2.2.2.2.2.2 (A.inputs.map VI) ∧ Ext w2 w') w2.heap.size (by omega) (.q 0 (.q 1 (.q 2 (.q 4 (.q 5 (.q 7 (.q 8 (.c 3 (.b 6 (.b 9 (.q 10 (.a 11 (.a 12 .done))) 11 (.a 9 (.q 10 (.a 12 .done)))) 11 (.a 6 (.a 9 (.q 10 (.a 12 .done))))) 6 (.c 3 (.b 9 (.q 10 (.a 11 (.a 12 .done))) 11 (.a 9 (.q 10 (.a 12 .done)))) 9 (.b 3 (.q 10 (.a 11 (.a 12 .done))) 11 (.a 3 (.q 10 (.a 12 .done)))) 11 (.b 3 (.a 9 (.q 10 (.a 12 .done))) 9 (.a 3 (.q 10 (.a 12 .done))))) 11 (.b 3 (.a 6 (.a 9 (.q 10 (.a 12 .done)))) 6 (.b 3 (.a 9 (.q 10 (.a 12 .done))) 9 (.a 3 (.q 10 (.a 12 .done))))))))))))) mixed (by kernel_rfl) rfl (by kernel_rfl) ?_ ?_
  · have hT := Ext.refl w2
    intro wd1 hEd1 hzd1
    replace hE := hE.trans hEd1
    replace hT := hT.trans hEd1
    replace hA := hA.ext hEd1
    replace hB1 := hB1.ext hEd1
    replace hB2 := hB2.ext hEd1
    have hDd1 := (Lo.refl (by omega) : Lo w2.heap.size wd1 wd1)
    refine PT_q rfl rfl (fun wq hq => ev_fieldAddr fo29_0 rfl) ?_
    refine PT_q rfl rfl (fun wq hq => ev_load one27 rfl ((hB1.lo hq.1 (by omega)).cell rfl)) ?_
    refine PT_q rfl rfl (fun wq hq => ev_len Try.underlying27 rfl) ?_
    refine PT_q rfl rfl (fun wq hq => ev_fieldAddr fo29_1 rfl) ?_
    refine PT_q rfl rfl (fun wq hq => ev_load one23 rfl ((hB1.lo hq.1 (by omega)).cell rfl)) ?_
    refine PT_q rfl rfl (fun wq hq => ev_fieldAddr fo29_2 rfl) ?_
    refine PT_q rfl rfl (fun wq hq => ev_load one23 rfl ((hB1.lo hq.1 (by omega)).cell rfl)) ?_
    refine PT_c ?_ ?_ ?_
    · refine PA_m w2.heap.size rfl rfl (ev_makeN Try.underlying27 el69 rfl rfl rfl (by omega) (by omega)) ?_
      rintro _ w9 ⟨rfl, hN9⟩
      have hz9 := hN9.size
      replace hE := hE.trans hN9.ext
      replace hT := hT.trans hN9.ext
      replace hDd1 := hDd1.trans hN9.ext
      replace hA := hA.ext hN9.ext
      replace hB1 := hB1.ext hN9.ext
      replace hB2 := hB2.ext hN9.ext
      have hB9 := hN9.blk
      refine ⟨by omega, fun _ hx => ⟨hDd1.lo hx (by omega), trivial⟩, ?_⟩
      have hDd1 := (Lo.refl (by omega) : Lo w2.heap.size w9 w9)
      refine PT_b ?_ ?_
      · refine PA_m w2.heap.size rfl rfl (ev_call rfl (Clone_int _ _ A.ids _ hA.ids (by omega) (by omega))) ?_
        rintro _ w12 ⟨a12, c12, rfl, hO12, hE12⟩
        have hz12 := hE12.size
        replace hE := hE.trans hE12
        replace hT := hT.trans hE12
        replace hDd1 := hDd1.trans hE12
        replace hA := hA.ext hE12
        replace hB1 := hB1.ext hE12
        replace hB2 := hB2.ext hE12
        replace hB9 := hB9.ext hE12
        replace hO12 := hO12.h
        refine ⟨by omega, fun _ hx => ⟨hDd1.lo hx (by omega), trivial⟩, ?_⟩
        have hDd1 := (Lo.refl (by omega) : Lo w2.heap.size w12 w12)
        refine PT_b ?_ ?_
        · refine PA_m w2.heap.size rfl rfl (ev_call rfl (Clone_int _ _ A.inputs _ hA.inputs (by omega) (by omega))) ?_
          rintro _ w15 ⟨a15, c15, rfl, hO15, hE15⟩
          have hz15 := hE15.size
          replace hE := hE.trans hE15
          replace hT := hT.trans hE15
          replace hDd1 := hDd1.trans hE15
          replace hA := hA.ext hE15
          replace hB1 := hB1.ext hE15
          replace hB2 := hB2.ext hE15
          replace hB9 := hB9.ext hE15
          replace hO12 := hO12.ext hE15
          replace hO15 := hO15.h
          refine ⟨by omega, fun _ hx => ⟨hDd1.lo hx (by omega), trivial⟩, ?_⟩
          have hDd1 := (Lo.refl (by omega) : Lo w2.heap.size w15 w15)
          refine PT_q rfl rfl (fun wq hq => ev_build3 sn29_3 rfl rfl rfl rfl rfl rfl) ?_
          refine PT_a ?_
          refine PA_m w2.heap.size rfl rfl (ev_alloc zr29) ?_
          rintro _ w3 ⟨rfl, hN3⟩
          have hz3 := hN3.size
          replace hE := hE.trans hN3.ext
          replace hT := hT.trans hN3.ext
          replace hDd1 := hDd1.trans hN3.ext
          replace hA := hA.ext hN3.ext
          replace hB1 := hB1.ext hN3.ext
          replace hB2 := hB2.ext hN3.ext
          replace hB9 := hB9.ext hN3.ext
          replace hO12 := hO12.ext hN3.ext
          replace hO15 := hO15.ext hN3.ext
          have hB3 : Blk w3 _ _ [_, _, _] := hN3.blk
          refine ⟨by omega, fun _ hx => ⟨hDd1.lo hx (by omega), trivial⟩, ?_⟩
          have hDd1 := (Lo.refl (by omega) : Lo w2.heap.size w3 w3)
          refine PT_a ?_
          refine PA_s w2.heap.size rfl (ev_stores sz29 rfl rfl rfl (by simp [Value.oneCell']) hB3 (by simp)) ?_
          rintro _ w1_12 hS1_12
          have hz1_12 := hS1_12.size
          replace hE := hE.sto hS1_12 (by omega)
          replace hT := hT.sto hS1_12 (by omega)
          replace hDd1 := hDd1.sto hS1_12 (by omega)
          replace hA := hA.sto hS1_12 (by omega)
          replace hB1 := hB1.sto hS1_12 (by omega)
          replace hB2 := hB2.sto hS1_12 (by omega)
          replace hB9 := hB9.sto hS1_12 (by omega)
          replace hO12 := hO12.sto hS1_12 (by omega)
          replace hO15 := hO15.sto hS1_12 (by omega)
          replace hB3 : Blk w1_12 _ _ [_, _, _] := hS1_12.blk
          refine ⟨by omega, fun _ hx => ⟨hDd1.lo hx (by omega), trivial⟩, ?_⟩
          have hDd1 := (Lo.refl (by omega) : Lo w2.heap.size w1_12 w1_12)
          exact PT_nil 12 ⟨hB3.num, hB9.num, w12.heap.size, a12, c12, a15, c15⟩ rfl ⟨rfl, trivial⟩ rfl ⟨⟨by (try dsimp only [Blk.num]); omega, by (try dsimp only [Blk.num]); omega, by (try dsimp only [Blk.num]); omega, by (try dsimp only [Blk.num]); omega, by (try dsimp only [Blk.num]); omega, by (try dsimp only [Blk.num]); omega, by (try dsimp only [Blk.num]); omega⟩, hB3, hB9, hO12.off (by (try dsimp only [Blk.num]); omega) (by (try dsimp only [Blk.num]); omega) (by (try dsimp only [Blk.num]); omega), hO15.off (by (try dsimp only [Blk.num]); omega) (by (try dsimp only [Blk.num]); omega) (by (try dsimp only [Blk.num]); omega), hT⟩
        · refine PA_m w2.heap.size rfl rfl (ev_alloc zr29) ?_
          rintro _ w3 ⟨rfl, hN3⟩
          have hz3 := hN3.size
          replace hE := hE.trans hN3.ext
          replace hT := hT.trans hN3.ext
          replace hDd1 := hDd1.trans hN3.ext
          replace hA := hA.ext hN3.ext
          replace hB1 := hB1.ext hN3.ext
          replace hB2 := hB2.ext hN3.ext
          replace hB9 := hB9.ext hN3.ext
          replace hO12 := hO12.ext hN3.ext
          have hB3 : Blk w3 _ _ [_, _, _] := hN3.blk
          refine ⟨by omega, fun _ hx => ⟨hDd1.lo hx (by omega), trivial⟩, ?_⟩
          have hDd1 := (Lo.refl (by omega) : Lo w2.heap.size w3 w3)
          refine PT_a ?_
          refine PA_m w2.heap.size rfl rfl (ev_call rfl (Clone_int _ _ A.inputs _ hA.inputs (by omega) (by omega))) ?_
          rintro _ w15 ⟨a15, c15, rfl, hO15, hE15⟩
          have hz15 := hE15.size
          replace hE := hE.trans hE15
          replace hT := hT.trans hE15
          replace hDd1 := hDd1.trans hE15
          replace hA := hA.ext hE15
          replace hB1 := hB1.ext hE15
          replace hB2 := hB2.ext hE15
          replace hB9 := hB9.ext hE15
          replace hO12 := hO12.ext hE15
          replace hB3 := hB3.ext hE15
          replace hO15 := hO15.h
          refine ⟨by omega, fun _ hx => ⟨hDd1.lo hx (by omega), trivial⟩, ?_⟩
          have hDd1 := (Lo.refl (by omega) : Lo w2.heap.size w15 w15)
          refine PT_q rfl rfl (fun wq hq => ev_build3 sn29_3 rfl rfl rfl rfl rfl rfl) ?_
          refine PT_a ?_
          refine PA_s w2.heap.size rfl (ev_stores sz29 rfl rfl rfl (by simp [Value.oneCell']) hB3 (by simp)) ?_
          rintro _ w1_12 hS1_12
          have hz1_12 := hS1_12.size
          replace hE := hE.sto hS1_12 (by omega)
          replace hT := hT.sto hS1_12 (by omega)
          replace hDd1 := hDd1.sto hS1_12 (by omega)
          replace hA := hA.sto hS1_12 (by omega)
          replace hB1 := hB1.sto hS1_12 (by omega)
          replace hB2 := hB2.sto hS1_12 (by omega)
          replace hB9 := hB9.sto hS1_12 (by omega)
          replace hO12 := hO12.sto hS1_12 (by omega)
          replace hO15 := hO15.sto hS1_12 (by omega)
          replace hB3 : Blk w1_12 _ _ [_, _, _] := hS1_12.blk
          refine ⟨by omega, fun _ hx => ⟨hDd1.lo hx (by omega), trivial⟩, ?_⟩
          have hDd1 := (Lo.refl (by omega) : Lo w2.heap.size w1_12 w1_12)
          exact PT_nil 12 ⟨hB3.num, hB9.num, w12.heap.size, a12, c12, a15, c15⟩ rfl ⟨rfl, trivial⟩ rfl ⟨⟨by (try dsimp only [Blk.num]); omega, by (try dsimp only [Blk.num]); omega, by (try dsimp only [Blk.num]); omega, by (try dsimp only [Blk.num]); omega, by (try dsimp only [Blk.num]); omega, by (try dsimp only [Blk.num]); omega, by (try dsimp only [Blk.num]); omega⟩, hB3, hB9, hO12.off (by (try dsimp only [Blk.num]); omega) (by (try dsimp only [Blk.num]); omega) (by (try dsimp only [Blk.num]); omega), hO15.off (by (try dsimp only [Blk.num]); omega) (by (try dsimp only [Blk.num]); omega) (by (try dsimp only [Blk.num]); omega), hT⟩
      · refine PA_m w2.heap.size rfl rfl (ev_alloc zr29) ?_
        rintro _ w3 ⟨rfl, hN3⟩
        have hz3 := hN3.size
        replace hE := hE.trans hN3.ext
        replace hT := hT.trans hN3.ext
        replace hDd1 := hDd1.trans hN3.ext
        replace hA := hA.ext hN3.ext
        replace hB1 := hB1.ext hN3.ext
        replace hB2 := hB2.ext hN3.ext
        replace hB9 := hB9.ext hN3.ext
        have hB3 : Blk w3 _ _ [_, _, _] := hN3.blk
        refine ⟨by omega, fun _ hx => ⟨hDd1.lo hx (by omega), trivial⟩, ?_⟩
        have hDd1 := (Lo.refl (by omega) : Lo w2.heap.size w3 w3)
        refine PT_a ?_
        refine PA_m w2.heap.size rfl rfl (ev_call rfl (Clone_int _ _ A.ids _ hA.ids (by omega) (by omega))) ?_
        rintro _ w12 ⟨a12, c12, rfl, hO12, hE12⟩
        have hz12 := hE12.size
        replace hE := hE.trans hE12
        replace hT := hT.trans hE12
        replace hDd1 := hDd1.trans hE12
        replace hA := hA.ext hE12
        replace hB1 := hB1.ext hE12
        replace hB2 := hB2.ext hE12
        replace hB9 := hB9.ext hE12
        replace hB3 := hB3.ext hE12
        replace hO12 := hO12.h
        refine ⟨by omega, fun _ hx => ⟨hDd1.lo hx (by omega), trivial⟩, ?_⟩
        have hDd1 := (Lo.refl (by omega) : Lo w2.heap.size w12 w12)
        refine PT_a ?_
        refine PA_m w2.heap.size rfl rfl (ev_call rfl (Clone_int _ _ A.inputs _ hA.inputs (by omega) (by omega))) ?_
        rintro _ w15 ⟨a15, c15, rfl, hO15, hE15⟩
        have hz15 := hE15.size
        replace hE := hE.trans hE15
        replace hT := hT.trans hE15
        replace hDd1 := hDd1.trans hE15
        replace hA := hA.ext hE15
        replace hB1 := hB1.ext hE15
        replace hB2 := hB2.ext hE15
        replace hB9 := hB9.ext hE15
        replace hB3 := hB3.ext hE15
        replace hO12 := hO12.ext hE15
        replace hO15 := hO15.h
        refine ⟨by omega, fun _ hx => ⟨hDd1.lo hx (by omega), trivial⟩, ?_⟩
        have hDd1 := (Lo.refl (by omega) : Lo w2.heap.size w15 w15)
        refine PT_q rfl rfl (fun wq hq => ev_build3 sn29_3 rfl rfl rfl rfl rfl rfl) ?_
        refine PT_a ?_
        refine PA_s w2.heap.size rfl (ev_stores sz29 rfl rfl rfl (by simp [Value.oneCell']) hB3 (by simp)) ?_
        rintro _ w1_12 hS1_12
        have hz1_12 := hS1_12.size
        replace hE := hE.sto hS1_12 (by omega)
        replace hT := hT.sto hS1_12 (by omega)
        replace hDd1 := hDd1.sto hS1_12 (by omega)
        replace hA := hA.sto hS1_12 (by omega)
        replace hB1 := hB1.sto hS1_12 (by omega)
        replace hB2 := hB2.sto hS1_12 (by omega)
        replace hB9 := hB9.sto hS1_12 (by omega)
        replace hO12 := hO12.sto hS1_12 (by omega)
        replace hO15 := hO15.sto hS1_12 (by omega)
        replace hB3 : Blk w1_12 _ _ [_, _, _] := hS1_12.blk
        refine ⟨by omega, fun _ hx => ⟨hDd1.lo hx (by omega), trivial⟩, ?_⟩
        have hDd1 := (Lo.refl (by omega) : Lo w2.heap.size w1_12 w1_12)
        exact PT_nil 12 ⟨hB3.num, hB9.num, w12.heap.size, a12, c12, a15, c15⟩ rfl ⟨rfl, trivial⟩ rfl ⟨⟨by (try dsimp only [Blk.num]); omega, by (try dsimp only [Blk.num]); omega, by (try dsimp only [Blk.num]); omega, by (try dsimp only [Blk.num]); omega, by (try dsimp only [Blk.num]); omega, by (try dsimp only [Blk.num]); omega, by (try dsimp only [Blk.num]); omega⟩, hB3, hB9, hO12.off (by (try dsimp only [Blk.num]); omega) (by (try dsimp only [Blk.num]); omega) (by (try dsimp only [Blk.num]); omega), hO15.off (by (try dsimp only [Blk.num]); omega) (by (try dsimp only [Blk.num]); omega) (by (try dsimp only [Blk.num]); omega), hT⟩
    · refine PA_m w2.heap.size rfl rfl (ev_call rfl (Clone_int _ _ A.ids _ hA.ids (by omega) (by omega))) ?_
      rintro _ w12 ⟨a12, c12, rfl, hO12, hE12⟩
      have hz12 := hE12.size
      replace hE := hE.trans hE12
      replace hT := hT.trans hE12
      replace hDd1 := hDd1.trans hE12
      replace hA := hA.ext hE12
      replace hB1 := hB1.ext hE12
      replace hB2 := hB2.ext hE12
      replace hO12 := hO12.h
      refine ⟨by omega, fun _ hx => ⟨hDd1.lo hx (by omega), trivial⟩, ?_⟩
      have hDd1 := (Lo.refl (by omega) : Lo w2.heap.size w12 w12)
      refine PT_c ?_ ?_ ?_
      · refine PA_m w2.heap.size rfl rfl (ev_makeN Try.underlying27 el69 rfl rfl rfl (by omega) (by omega)) ?_
        rintro _ w9 ⟨rfl, hN9⟩
        have hz9 := hN9.size
        replace hE := hE.trans hN9.ext
        replace hT := hT.trans hN9.ext
        replace hDd1 := hDd1.trans hN9.ext
        replace hA := hA.ext hN9.ext
        replace hB1 := hB1.ext hN9.ext
        replace hB2 := hB2.ext hN9.ext
        replace hO12 := hO12.ext hN9.ext
        have hB9 := hN9.blk
        refine ⟨by omega, fun _ hx => ⟨hDd1.lo hx (by omega), trivial⟩, ?_⟩
        have hDd1 := (Lo.refl (by omega) : Lo w2.heap.size w9 w9)
        refine PT_b ?_ ?_
        · refine PA_m w2.heap.size rfl rfl (ev_call rfl (Clone_int _ _ A.inputs _ hA.inputs (by omega) (by omega))) ?_
          rintro _ w15 ⟨a15, c15, rfl, hO15, hE15⟩
          have hz15 := hE15.size
          replace hE := hE.trans hE15
          replace hT := hT.trans hE15
          replace hDd1 := hDd1.trans hE15
          replace hA := hA.ext hE15
          replace hB1 := hB1.ext hE15
          replace hB2 := hB2.ext hE15
          replace hO12 := hO12.ext hE15
          replace hB9 := hB9.ext hE15
          replace hO15 := hO15.h
          refine ⟨by omega, fun _ hx => ⟨hDd1.lo hx (by omega), trivial⟩, ?_⟩
          have hDd1 := (Lo.refl (by omega) : Lo w2.heap.size w15 w15)
          refine PT_q rfl rfl (fun wq hq => ev_build3 sn29_3 rfl rfl rfl rfl rfl rfl) ?_
          refine PT_a ?_
          refine PA_m w2.heap.size rfl rfl (ev_alloc zr29) ?_
          rintro _ w3 ⟨rfl, hN3⟩
          have hz3 := hN3.size
          replace hE := hE.trans hN3.ext
          replace hT := hT.trans hN3.ext
          replace hDd1 := hDd1.trans hN3.ext
          replace hA := hA.ext hN3.ext
          replace hB1 := hB1.ext hN3.ext
          replace hB2 := hB2.ext hN3.ext
          replace hO12 := hO12.ext hN3.ext
          replace hB9 := hB9.ext hN3.ext
          replace hO15 := hO15.ext hN3.ext
          have hB3 : Blk w3 _ _ [_, _, _] := hN3.blk
          refine ⟨by omega, fun _ hx => ⟨hDd1.lo hx (by omega), trivial⟩, ?_⟩
          have hDd1 := (Lo.refl (by omega) : Lo w2.heap.size w3 w3)
          refine PT_a ?_
          refine PA_s w2.heap.size rfl (ev_stores sz29 rfl rfl rfl (by simp [Value.oneCell']) hB3 (by simp)) ?_
          rintro _ w1_12 hS1_12
          have hz1_12 := hS1_12.size
          replace hE := hE.sto hS1_12 (by omega)
          replace hT := hT.sto hS1_12 (by omega)
          replace hDd1 := hDd1.sto hS1_12 (by omega)
          replace hA := hA.sto hS1_12 (by omega)
          replace hB1 := hB1.sto hS1_12 (by omega)
          replace hB2 := hB2.sto hS1_12 (by omega)
          replace hO12 := hO12.sto hS1_12 (by omega)
          replace hB9 := hB9.sto hS1_12 (by omega)
          replace hO15 := hO15.sto hS1_12 (by omega)
          replace hB3 : Blk w1_12 _ _ [_, _, _] := hS1_12.blk
          refine ⟨by omega, fun _ hx => ⟨hDd1.lo hx (by omega), trivial⟩, ?_⟩
          have hDd1 := (Lo.refl (by omega) : Lo w2.heap.size w1_12 w1_12)
          exact PT_nil 12 ⟨hB3.num, hB9.num, w12.heap.size, a12, c12, a15, c15⟩ rfl ⟨rfl, trivial⟩ rfl ⟨⟨by (try dsimp only [Blk.num]); omega, by (try dsimp only [Blk.num]); omega, by (try dsimp only [Blk.num]); omega, by (try dsimp only [Blk.num]); omega, by (try dsimp only [Blk.num]); omega, by (try dsimp only [Blk.num]); omega, by (try dsimp only [Blk.num]); omega⟩, hB3, hB9, hO12.off (by (try dsimp only [Blk.num]); omega) (by (try dsimp only [Blk.num]); omega) (by (try dsimp only [Blk.num]); omega), hO15.off (by (try dsimp only [Blk.num]); omega) (by (try dsimp only [Blk.num]); omega) (by (try dsimp only [Blk.num]); omega), hT⟩
        · refine PA_m w2.heap.size rfl rfl (ev_alloc zr29) ?_
          rintro _ w3 ⟨rfl, hN3⟩
          have hz3 := hN3.size
          replace hE := hE.trans hN3.ext
          replace hT := hT.trans hN3.ext
          replace hDd1 := hDd1.trans hN3.ext
          replace hA := hA.ext hN3.ext
          replace hB1 := hB1.ext hN3.ext
          replace hB2 := hB2.ext hN3.ext
          replace hO12 := hO12.ext hN3.ext
          replace hB9 := hB9.ext hN3.ext
          have hB3 : Blk w3 _ _ [_, _, _] := hN3.blk
          refine ⟨by omega, fun _ hx => ⟨hDd1.lo hx (by omega), trivial⟩, ?_⟩
          have hDd1 := (Lo.refl (by omega) : Lo w2.heap.size w3 w3)
          refine PT_a ?_
          refine PA_m w2.heap.size rfl rfl (ev_call rfl (Clone_int _ _ A.inputs _ hA.inputs (by omega) (by omega))) ?_
          rintro _ w15 ⟨a15, c15, rfl, hO15, hE15⟩
          have hz15 := hE15.size
          replace hE := hE.trans hE15
          replace hT := hT.trans hE15
          replace hDd1 := hDd1.trans hE15
          replace hA := hA.ext hE15
          replace hB1 := hB1.ext hE15
          replace hB2 := hB2.ext hE15
          replace hO12 := hO12.ext hE15
          replace hB9 := hB9.ext hE15
          replace hB3 := hB3.ext hE15
          replace hO15 := hO15.h
          refine ⟨by omega, fun _ hx => ⟨hDd1.lo hx (by omega), trivial⟩, ?_⟩
          have hDd1 := (Lo.refl (by omega) : Lo w2.heap.size w15 w15)
          refine PT_q rfl rfl (fun wq hq => ev_build3 sn29_3 rfl rfl rfl rfl rfl rfl) ?_
          refine PT_a ?_
          refine PA_s w2.heap.size rfl (ev_stores sz29 rfl rfl rfl (by simp [Value.oneCell']) hB3 (by simp)) ?_
          rintro _ w1_12 hS1_12
          have hz1_12 := hS1_12.size
          replace hE := hE.sto hS1_12 (by omega)
          replace hT := hT.sto hS1_12 (by omega)
          replace hDd1 := hDd1.sto hS1_12 (by omega)
          replace hA := hA.sto hS1_12 (by omega)
          replace hB1 := hB1.sto hS1_12 (by omega)
          replace hB2 := hB2.sto hS1_12 (by omega)
          replace hO12 := hO12.sto hS1_12 (by omega)
          replace hB9 := hB9.sto hS1_12 (by omega)
          replace hO15 := hO15.sto hS1_12 (by omega)
          replace hB3 : Blk w1_12 _ _ [_, _, _] := hS1_12.blk
          refine ⟨by omega, fun _ hx => ⟨hDd1.lo hx (by omega), trivial⟩, ?_⟩
          have hDd1 := (Lo.refl (by omega) : Lo w2.heap.size w1_12 w1_12)
          exact PT_nil 12 ⟨hB3.num, hB9.num, w12.heap.size, a12, c12, a15, c15⟩ rfl ⟨rfl, trivial⟩ rfl ⟨⟨by (try dsimp only [Blk.num]); omega, by (try dsimp only [Blk.num]); omega, by (try dsimp only [Blk.num]); omega, by (try dsimp only [Blk.num]); omega, by (try dsimp only [Blk.num]); omega, by (try dsimp only [Blk.num]); omega, by (try dsimp only [Blk.num]); omega⟩, hB3, hB9, hO12.off (by (try dsimp only [Blk.num]); omega) (by (try dsimp only [Blk.num]); omega) (by (try dsimp only [Blk.num]); omega), hO15.off (by (try dsimp only [Blk.num]); omega) (by (try dsimp only [Blk.num]); omega) (by (try dsimp only [Blk.num]); omega), hT⟩
      · refine PA_m w2.heap.size rfl rfl (ev_call rfl (Clone_int _ _ A.inputs _ hA.inputs (by omega) (by omega))) ?_
        rintro _ w15 ⟨a15, c15, rfl, hO15, hE15⟩
        have hz15 := hE15.size
        replace hE := hE.trans hE15
        replace hT := hT.trans hE15
        replace hDd1 := hDd1.trans hE15
        replace hA := hA.ext hE15
        replace hB1 := hB1.ext hE15
        replace hB2 := hB2.ext hE15
        replace hO12 := hO12.ext hE15
        replace hO15 := hO15.h
        refine ⟨by omega, fun _ hx => ⟨hDd1.lo hx (by omega), trivial⟩, ?_⟩
        have hDd1 := (Lo.refl (by omega) : Lo w2.heap.size w15 w15)
        refine PT_b ?_ ?_
        · refine PA_m w2.heap.size rfl rfl (ev_makeN Try.underlying27 el69 rfl rfl rfl (by omega) (by omega)) ?_
          rintro _ w9 ⟨rfl, hN9⟩
          have hz9 := hN9.size
          replace hE := hE.trans hN9.ext
          replace hT := hT.trans hN9.ext
          replace hDd1 := hDd1.trans hN9.ext
          replace hA := hA.ext hN9.ext
          replace hB1 := hB1.ext hN9.ext
          replace hB2 := hB2.ext hN9.ext
          replace hO12 := hO12.ext hN9.ext
          replace hO15 := hO15.ext hN9.ext
          have hB9 := hN9.blk
          refine ⟨by omega, fun _ hx => ⟨hDd1.lo hx (by omega), trivial⟩, ?_⟩
          have hDd1 := (Lo.refl (by omega) : Lo w2.heap.size w9 w9)
          refine PT_q rfl rfl (fun wq hq => ev_build3 sn29_3 rfl rfl rfl rfl rfl rfl) ?_
          refine PT_a ?_
          refine PA_m w2.heap.size rfl rfl (ev_alloc zr29) ?_
          rintro _ w3 ⟨rfl, hN3⟩
          have hz3 := hN3.size
          replace hE := hE.trans hN3.ext
          replace hT := hT.trans hN3.ext
          replace hDd1 := hDd1.trans hN3.ext
          replace hA := hA.ext hN3.ext
          replace hB1 := hB1.ext hN3.ext
          replace hB2 := hB2.ext hN3.ext
          replace hO12 := hO12.ext hN3.ext
          replace hO15 := hO15.ext hN3.ext
          replace hB9 := hB9.ext hN3.ext
          have hB3 : Blk w3 _ _ [_, _, _] := hN3.blk
          refine ⟨by omega, fun _ hx => ⟨hDd1.lo hx (by omega), trivial⟩, ?_⟩
          have hDd1 := (Lo.refl (by omega) : Lo w2.heap.size w3 w3)
          refine PT_a ?_
          refine PA_s w2.heap.size rfl (ev_stores sz29 rfl rfl rfl (by simp [Value.oneCell']) hB3 (by simp)) ?_
          rintro _ w1_12 hS1_12
          have hz1_12 := hS1_12.size
          replace hE := hE.sto hS1_12 (by omega)
          replace hT := hT.sto hS1_12 (by omega)
          replace hDd1 := hDd1.sto hS1_12 (by omega)
          replace hA := hA.sto hS1_12 (by omega)
          replace hB1 := hB1.sto hS1_12 (by omega)
          replace hB2 := hB2.sto hS1_12 (by omega)
          replace hO12 := hO12.sto hS1_12 (by omega)
          replace hO15 := hO15.sto hS1_12 (by omega)
          replace hB9 := hB9.sto hS1_12 (by omega)
          replace hB3 : Blk w1_12 _ _ [_, _, _] := hS1_12.blk
          refine ⟨by omega, fun _ hx => ⟨hDd1.lo hx (by omega), trivial⟩, ?_⟩
          have hDd1 := (Lo.refl (by omega) : Lo w2.heap.size w1_12 w1_12)
          exact PT_nil 12 ⟨hB3.num, hB9.num, w12.heap.size, a12, c12, a15, c15⟩ rfl ⟨rfl, trivial⟩ rfl ⟨⟨by (try dsimp only [Blk.num]); omega, by (try dsimp only [Blk.num]); omega, by (try dsimp only [Blk.num]); omega, by (try dsimp only [Blk.num]); omega, by (try dsimp only [Blk.num]); omega, by (try dsimp only [Blk.num]); omega, by (try dsimp only [Blk.num]); omega⟩, hB3, hB9, hO12.off (by (try dsimp only [Blk.num]); omega) (by (try dsimp only [Blk.num]); omega) (by (try dsimp only [Blk.num]); omega), hO15.off (by (try dsimp only [Blk.num]); omega) (by (try dsimp only [Blk.num]); omega) (by (try dsimp only [Blk.num]); omega), hT⟩
        · refine PA_m w2.heap.size rfl rfl (ev_alloc zr29) ?_
          rintro _ w3 ⟨rfl, hN3⟩
          have hz3 := hN3.size
          replace hE := hE.trans hN3.ext
          replace hT := hT.trans hN3.ext
          replace hDd1 := hDd1.trans hN3.ext
          replace hA := hA.ext hN3.ext
          replace hB1 := hB1.ext hN3.ext
          replace hB2 := hB2.ext hN3.ext
          replace hO12 := hO12.ext hN3.ext
          replace hO15 := hO15.ext hN3.ext
          have hB3 : Blk w3 _ _ [_, _, _] := hN3.blk
          refine ⟨by omega, fun _ hx => ⟨hDd1.lo hx (by omega), trivial⟩, ?_⟩
          have hDd1 := (Lo.refl (by omega) : Lo w2.heap.size w3 w3)
          refine PT_a ?_
          refine PA_m w2.heap.size rfl rfl (ev_makeN Try.underlying27 el69 rfl rfl rfl (by omega) (by omega)) ?_
          rintro _ w9 ⟨rfl, hN9⟩
          have hz9 := hN9.size
          replace hE := hE.trans hN9.ext
          replace hT := hT.trans hN9.ext
          replace hDd1 := hDd1.trans hN9.ext
          replace hA := hA.ext hN9.ext
          replace hB1 := hB1.ext hN9.ext
          replace hB2 := hB2.ext hN9.ext
          replace hO12 := hO12.ext hN9.ext
          replace hO15 := hO15.ext hN9.ext
          replace hB3 := hB3.ext hN9.ext
          have hB9 := hN9.blk
          refine ⟨by omega, fun _ hx => ⟨hDd1.lo hx (by omega), trivial⟩, ?_⟩
          have hDd1 := (Lo.refl (by omega) : Lo w2.heap.size w9 w9)
          refine PT_q rfl rfl (fun wq hq => ev_build3 sn29_3 rfl rfl rfl rfl rfl rfl) ?_
          refine PT_a ?_
          refine PA_s w2.heap.size rfl (ev_stores sz29 rfl rfl rfl (by simp [Value.oneCell']) hB3 (by simp)) ?_
          rintro _ w1_12 hS1_12
          have hz1_12 := hS1_12.size
          replace hE := hE.sto hS1_12 (by omega)
          replace hT := hT.sto hS1_12 (by omega)
          replace hDd1 := hDd1.sto hS1_12 (by omega)
          replace hA := hA.sto hS1_12 (by omega)
          replace hB1 := hB1.sto hS1_12 (by omega)
          replace hB2 := hB2.sto hS1_12 (by omega)
          replace hO12 := hO12.sto hS1_12 (by omega)
          replace hO15 := hO15.sto hS1_12 (by omega)
          replace hB9 := hB9.sto hS1_12 (by omega)
          replace hB3 : Blk w1_12 _ _ [_, _, _] := hS1_12.blk
          refine ⟨by omega, fun _ hx => ⟨hDd1.lo hx (by omega), trivial⟩, ?_⟩
          have hDd1 := (Lo.refl (by omega) : Lo w2.heap.size w1_12 w1_12)
          exact PT_nil 12 ⟨hB3.num, hB9.num, w12.heap.size, a12, c12, a15, c15⟩ rfl ⟨rfl, trivial⟩ rfl ⟨⟨by (try dsimp only [Blk.num]); omega, by (try dsimp only [Blk.num]); omega, by (try dsimp only [Blk.num]); omega, by (try dsimp only [Blk.num]); omega, by (try dsimp only [Blk.num]); omega, by (try dsimp only [Blk.num]); omega, by (try dsimp only [Blk.num]); omega⟩, hB3, hB9, hO12.off (by (try dsimp only [Blk.num]); omega) (by (try dsimp only [Blk.num]); omega) (by (try dsimp only [Blk.num]); omega), hO15.off (by (try dsimp only [Blk.num]); omega) (by (try dsimp only [Blk.num]); omega) (by (try dsimp only [Blk.num]); omega), hT⟩
      · refine PA_m w2.heap.size rfl rfl (ev_alloc zr29) ?_
        rintro _ w3 ⟨rfl, hN3⟩
        have hz3 := hN3.size
        replace hE := hE.trans hN3.ext
        replace hT := hT.trans hN3.ext
        replace hDd1 := hDd1.trans hN3.ext
        replace hA := hA.ext hN3.ext
        replace hB1 := hB1.ext hN3.ext
        replace hB2 := hB2.ext hN3.ext
        replace hO12 := hO12.ext hN3.ext
        have hB3 : Blk w3 _ _ [_, _, _] := hN3.blk
        refine ⟨by omega, fun _ hx => ⟨hDd1.lo hx (by omega), trivial⟩, ?_⟩
        have hDd1 := (Lo.refl (by omega) : Lo w2.heap.size w3 w3)
        refine PT_b ?_ ?_
        · refine PA_m w2.heap.size rfl rfl (ev_makeN Try.underlying27 el69 rfl rfl rfl (by omega) (by omega)) ?_
          rintro _ w9 ⟨rfl, hN9⟩
          have hz9 := hN9.size
          replace hE := hE.trans hN9.ext
          replace hT := hT.trans hN9.ext
          replace hDd1 := hDd1.trans hN9.ext
          replace hA := hA.ext hN9.ext
          replace hB1 := hB1.ext hN9.ext
          replace hB2 := hB2.ext hN9.ext
          replace hO12 := hO12.ext hN9.ext
          replace hB3 := hB3.ext hN9.ext
          have hB9 := hN9.blk
          refine ⟨by omega, fun _ hx => ⟨hDd1.lo hx (by omega), trivial⟩, ?_⟩
          have hDd1 := (Lo.refl (by omega) : Lo w2.heap.size w9 w9)
          refine PT_a ?_
          refine PA_m w2.heap.size rfl rfl (ev_call rfl (Clone_int _ _ A.inputs _ hA.inputs (by omega) (by omega))) ?_
          rintro _ w15 ⟨a15, c15, rfl, hO15, hE15⟩
          have hz15 := hE15.size
          replace hE := hE.trans hE15
          replace hT := hT.trans hE15
          replace hDd1 := hDd1.trans hE15
          replace hA := hA.ext hE15
          replace hB1 := hB1.ext hE15
          replace hB2 := hB2.ext hE15
          replace hO12 := hO12.ext hE15
          replace hB3 := hB3.ext hE15
          replace hB9 := hB9.ext hE15
          replace hO15 := hO15.h
          refine ⟨by omega, fun _ hx => ⟨hDd1.lo hx (by omega), trivial⟩, ?_⟩
          have hDd1 := (Lo.refl (by omega) : Lo w2.heap.size w15 w15)
          refine PT_q rfl rfl (fun wq hq => ev_build3 sn29_3 rfl rfl rfl rfl rfl rfl) ?_
          refine PT_a ?_
          refine PA_s w2.heap.size rfl (ev_stores sz29 rfl rfl rfl (by simp [Value.oneCell']) hB3 (by simp)) ?_
          rintro _ w1_12 hS1_12
          have hz1_12 := hS1_12.size
          replace hE := hE.sto hS1_12 (by omega)
          replace hT := hT.sto hS1_12 (by omega)
          replace hDd1 := hDd1.sto hS1_12 (by omega)
          replace hA := hA.sto hS1_12 (by omega)
          replace hB1 := hB1.sto hS1_12 (by omega)
          replace hB2 := hB2.sto hS1_12 (by omega)
          replace hO12 := hO12.sto hS1_12 (by omega)
          replace hB9 := hB9.sto hS1_12 (by omega)
          replace hO15 := hO15.sto hS1_12 (by omega)
          replace hB3 : Blk w1_12 _ _ [_, _, _] := hS1_12.blk
          refine ⟨by omega, fun _ hx => ⟨hDd1.lo hx (by omega), trivial⟩, ?_⟩
          have hDd1 := (Lo.refl (by omega) : Lo w2.heap.size w1_12 w1_12)
          exact PT_nil 12 ⟨hB3.num, hB9.num, w12.heap.size, a12, c12, a15, c15⟩ rfl ⟨rfl, trivial⟩ rfl ⟨⟨by (try dsimp only [Blk.num]); omega, by (try dsimp only [Blk.num]); omega, by (try dsimp only [Blk.num]); omega, by (try dsimp only [Blk.num]); omega, by (try dsimp only [Blk.num]); omega, by (try dsimp only [Blk.num]); omega, by (try dsimp only [Blk.num]); omega⟩, hB3, hB9, hO12.off (by (try dsimp only [Blk.num]); omega) (by (try dsimp only [Blk.num]); omega) (by (try dsimp only [Blk.num]); omega), hO15.off (by (try dsimp only [Blk.num]); omega) (by (try dsimp only [Blk.num]); omega) (by (try dsimp only [Blk.num]); omega), hT⟩
        · refine PA_m w2.heap.size rfl rfl (ev_call rfl (Clone_int _ _ A.inputs _ hA.inputs (by omega) (by omega))) ?_
          rintro _ w15 ⟨a15, c15, rfl, hO15, hE15⟩
          have hz15 := hE15.size
          replace hE := hE.trans hE15
          replace hT := hT.trans hE15
          replace hDd1 := hDd1.trans hE15
          replace hA := hA.ext hE15
          replace hB1 := hB1.ext hE15
          replace hB2 := hB2.ext hE15
          replace hO12 := hO12.ext hE15
          replace hB3 := hB3.ext hE15
          replace hO15 := hO15.h
          refine ⟨by omega, fun _ hx => ⟨hDd1.lo hx (by omega), trivial⟩, ?_⟩
          have hDd1 := (Lo.refl (by omega) : Lo w2.heap.size w15 w15)
          refine PT_a ?_
          refine PA_m w2.heap.size rfl rfl (ev_makeN Try.underlying27 el69 rfl rfl rfl (by omega) (by omega)) ?_
          rintro _ w9 ⟨rfl, hN9⟩
          have hz9 := hN9.size
          replace hE := hE.trans hN9.ext
          replace hT := hT.trans hN9.ext
          replace hDd1 := hDd1.trans hN9.ext
          replace hA := hA.ext hN9.ext
          replace hB1 := hB1.ext hN9.ext
          replace hB2 := hB2.ext hN9.ext
          replace hO12 := hO12.ext hN9.ext
          replace hB3 := hB3.ext hN9.ext
          replace hO15 := hO15.ext hN9.ext
          have hB9 := hN9.blk
          refine ⟨by omega, fun _ hx => ⟨hDd1.lo hx (by omega), trivial⟩, ?_⟩
          have hDd1 := (Lo.refl (by omega) : Lo w2.heap.size w9 w9)
          refine PT_q rfl rfl (fun wq hq => ev_build3 sn29_3 rfl rfl rfl rfl rfl rfl) ?_
          refine PT_a ?_
          refine PA_s w2.heap.size rfl (ev_stores sz29 rfl rfl rfl (by simp [Value.oneCell']) hB3 (by simp)) ?_
          rintro _ w1_12 hS1_12
          have hz1_12 := hS1_12.size
          replace hE := hE.sto hS1_12 (by omega)
          replace hT := hT.sto hS1_12 (by omega)
          replace hDd1 := hDd1.sto hS1_12 (by omega)
          replace hA := hA.sto hS1_12 (by omega)
          replace hB1 := hB1.sto hS1_12 (by omega)
          replace hB2 := hB2.sto hS1_12 (by omega)
          replace hO12 := hO12.sto hS1_12 (by omega)
          replace hO15 := hO15.sto hS1_12 (by omega)
          replace hB9 := hB9.sto hS1_12 (by omega)
          replace hB3 : Blk w1_12 _ _ [_, _, _] := hS1_12.blk
          refine ⟨by omega, fun _ hx => ⟨hDd1.lo hx (by omega), trivial⟩, ?_⟩
          have hDd1 := (Lo.refl (by omega) : Lo w2.heap.size w1_12 w1_12)
          exact PT_nil 12 ⟨hB3.num, hB9.num, w12.heap.size, a12, c12, a15, c15⟩ rfl ⟨rfl, trivial⟩ rfl ⟨⟨by (try dsimp only [Blk.num]); omega, by (try dsimp only [Blk.num]); omega, by (try dsimp only [Blk.num]); omega, by (try dsimp only [Blk.num]); omega, by (try dsimp only [Blk.num]); omega, by (try dsimp only [Blk.num]); omega, by (try dsimp only [Blk.num]); omega⟩, hB3, hB9, hO12.off (by (try dsimp only [Blk.num]); omega) (by (try dsimp only [Blk.num]); omega) (by (try dsimp only [Blk.num]); omega), hO15.off (by (try dsimp only [Blk.num]); omega) (by (try dsimp only [Blk.num]); omega) (by (try dsimp only [Blk.num]); omega), hT⟩
    · refine PA_m w2.heap.size rfl rfl (ev_alloc zr29) ?_
      rintro _ w3 ⟨rfl, hN3⟩
      have hz3 := hN3.size
      replace hE := hE.trans hN3.ext
      replace hT := hT.trans hN3.ext
      replace hDd1 := hDd1.trans hN3.ext
      replace hA := hA.ext hN3.ext
      replace hB1 := hB1.ext hN3.ext
      replace hB2 := hB2.ext hN3.ext
      have hB3 : Blk w3 _ _ [_, _, _] := hN3.blk
      refine ⟨by omega, fun _ hx => ⟨hDd1.lo hx (by omega), trivial⟩, ?_⟩
      have hDd1 := (Lo.refl (by omega) : Lo w2.heap.size w3 w3)
      refine PT_b ?_ ?_
      · refine PA_m w2.heap.size rfl rfl (ev_makeN Try.underlying27 el69 rfl rfl rfl (by omega) (by omega)) ?_
        rintro _ w9 ⟨rfl, hN9⟩
        have hz9 := hN9.size
        replace hE := hE.trans hN9.ext
        replace hT := hT.trans hN9.ext
        replace hDd1 := hDd1.trans hN9.ext
        replace hA := hA.ext hN9.ext
        replace hB1 := hB1.ext hN9.ext
        replace hB2 := hB2.ext hN9.ext
        replace hB3 := hB3.ext hN9.ext
        have hB9 := hN9.blk
        refine ⟨by omega, fun _ hx => ⟨hDd1.lo hx (by omega), trivial⟩, ?_⟩
        have hDd1 := (Lo.refl (by omega) : Lo w2.heap.size w9 w9)
        refine PT_a ?_
        refine PA_m w2.heap.size rfl rfl (ev_call rfl (Clone_int _ _ A.ids _ hA.ids (by omega) (by omega))) ?_
        rintro _ w12 ⟨a12, c12, rfl, hO12, hE12⟩
        have hz12 := hE12.size
        replace hE := hE.trans hE12
        replace hT := hT.trans hE12
        replace hDd1 := hDd1.trans hE12
        replace hA := hA.ext hE12
        replace hB1 := hB1.ext hE12
        replace hB2 := hB2.ext hE12
        replace hB3 := hB3.ext hE12
        replace hB9 := hB9.ext hE12
        replace hO12 := hO12.h
        refine ⟨by omega, fun _ hx => ⟨hDd1.lo hx (by omega), trivial⟩, ?_⟩
        have hDd1 := (Lo.refl (by omega) : Lo w2.heap.size w12 w12)
        refine PT_a ?_
        refine PA_m w2.heap.size rfl rfl (ev_call rfl (Clone_int _ _ A.inputs _ hA.inputs (by omega) (by omega))) ?_
        rintro _ w15 ⟨a15, c15, rfl, hO15, hE15⟩
        have hz15 := hE15.size
        replace hE := hE.trans hE15
        replace hT := hT.trans hE15
        replace hDd1 := hDd1.trans hE15
        replace hA := hA.ext hE15
        replace hB1 := hB1.ext hE15
        replace hB2 := hB2.ext hE15
        replace hB3 := hB3.ext hE15
        replace hB9 := hB9.ext hE15
        replace hO12 := hO12.ext hE15
        replace hO15 := hO15.h
        refine ⟨by omega, fun _ hx => ⟨hDd1.lo hx (by omega), trivial⟩, ?_⟩
        have hDd1 := (Lo.refl (by omega) : Lo w2.heap.size w15 w15)
        refine PT_q rfl rfl (fun wq hq => ev_build3 sn29_3 rfl rfl rfl rfl rfl rfl) ?_
        refine PT_a ?_
        refine PA_s w2.heap.size rfl (ev_stores sz29 rfl rfl rfl (by simp [Value.oneCell']) hB3 (by simp)) ?_
        rintro _ w1_12 hS1_12
        have hz1_12 := hS1_12.size
        replace hE := hE.sto hS1_12 (by omega)
        replace hT := hT.sto hS1_12 (by omega)
        replace hDd1 := hDd1.sto hS1_12 (by omega)
        replace hA := hA.sto hS1_12 (by omega)
        replace hB1 := hB1.sto hS1_12 (by omega)
        replace hB2 := hB2.sto hS1_12 (by omega)
        replace hB9 := hB9.sto hS1_12 (by omega)
        replace hO12 := hO12.sto hS1_12 (by omega)
        replace hO15 := hO15.sto hS1_12 (by omega)
        replace hB3 : Blk w1_12 _ _ [_, _, _] := hS1_12.blk
        refine ⟨by omega, fun _ hx => ⟨hDd1.lo hx (by omega), trivial⟩, ?_⟩
        have hDd1 := (Lo.refl (by omega) : Lo w2.heap.size w1_12 w1_12)
        exact PT_nil 12 ⟨hB3.num, hB9.num, w12.heap.size, a12, c12, a15, c15⟩ rfl ⟨rfl, trivial⟩ rfl ⟨⟨by (try dsimp only [Blk.num]); omega, by (try dsimp only [Blk.num]); omega, by (try dsimp only [Blk.num]); omega, by (try dsimp only [Blk.num]); omega, by (try dsimp only [Blk.num]); omega, by (try dsimp only [Blk.num]); omega, by (try dsimp only [Blk.num]); omega⟩, hB3, hB9, hO12.off (by (try dsimp only [Blk.num]); omega) (by (try dsimp only [Blk.num]); omega) (by (try dsimp only [Blk.num]); omega), hO15.off (by (try dsimp only [Blk.num]); omega) (by (try dsimp only [Blk.num]); omega) (by (try dsimp only [Blk.num]); omega), hT⟩
      · refine PA_m w2.heap.size rfl rfl (ev_call rfl (Clone_int _ _ A.ids _ hA.ids (by omega) (by omega))) ?_
        rintro _ w12 ⟨a12, c12, rfl, hO12, hE12⟩
        have hz12 := hE12.size
        replace hE := hE.trans hE12
        replace hT := hT.trans hE12
        replace hDd1 := hDd1.trans hE12
        replace hA := hA.ext hE12
        replace hB1 := hB1.ext hE12
        replace hB2 := hB2.ext hE12
        replace hB3 := hB3.ext hE12
        replace hO12 := hO12.h
        refine ⟨by omega, fun _ hx => ⟨hDd1.lo hx (by omega), trivial⟩, ?_⟩
        have hDd1 := (Lo.refl (by omega) : Lo w2.heap.size w12 w12)
        refine PT_b ?_ ?_
        · refine PA_m w2.heap.size rfl rfl (ev_makeN Try.underlying27 el69 rfl rfl rfl (by omega) (by omega)) ?_
          rintro _ w9 ⟨rfl, hN9⟩
          have hz9 := hN9.size
          replace hE := hE.trans hN9.ext
          replace hT := hT.trans hN9.ext
          replace hDd1 := hDd1.trans hN9.ext
          replace hA := hA.ext hN9.ext
          replace hB1 := hB1.ext hN9.ext
          replace hB2 := hB2.ext hN9.ext
          replace hB3 := hB3.ext hN9.ext
          replace hO12 := hO12.ext hN9.ext
          have hB9 := hN9.blk
          refine ⟨by omega, fun _ hx => ⟨hDd1.lo hx (by omega), trivial⟩, ?_⟩
          have hDd1 := (Lo.refl (by omega) : Lo w2.heap.size w9 w9)
          refine PT_a ?_
          refine PA_m w2.heap.size rfl rfl (ev_call rfl (Clone_int _ _ A.inputs _ hA.inputs (by omega) (by omega))) ?_
          rintro _ w15 ⟨a15, c15, rfl, hO15, hE15⟩
          have hz15 := hE15.size
          replace hE := hE.trans hE15
          replace hT := hT.trans hE15
          replace hDd1 := hDd1.trans hE15
          replace hA := hA.ext hE15
          replace hB1 := hB1.ext hE15
          replace hB2 := hB2.ext hE15
          replace hB3 := hB3.ext hE15
          replace hO12 := hO12.ext hE15
          replace hB9 := hB9.ext hE15
          replace hO15 := hO15.h
          refine ⟨by omega, fun _ hx => ⟨hDd1.lo hx (by omega), trivial⟩, ?_⟩
          have hDd1 := (Lo.refl (by omega) : Lo w2.heap.size w15 w15)
          refine PT_q rfl rfl (fun wq hq => ev_build3 sn29_3 rfl rfl rfl rfl rfl rfl) ?_
          refine PT_a ?_
          refine PA_s w2.heap.size rfl (ev_stores sz29 rfl rfl rfl (by simp [Value.oneCell']) hB3 (by simp)) ?_
          rintro _ w1_12 hS1_12
          have hz1_12 := hS1_12.size
          replace hE := hE.sto hS1_12 (by omega)
          replace hT := hT.sto hS1_12 (by omega)
          replace hDd1 := hDd1.sto hS1_12 (by omega)
          replace hA := hA.sto hS1_12 (by omega)
          replace hB1 := hB1.sto hS1_12 (by omega)
          replace hB2 := hB2.sto hS1_12 (by omega)
          replace hO12 := hO12.sto hS1_12 (by omega)
          replace hB9 := hB9.sto hS1_12 (by omega)
          replace hO15 := hO15.sto hS1_12 (by omega)
          replace hB3 : Blk w1_12 _ _ [_, _, _] := hS1_12.blk
          refine ⟨by omega, fun _ hx => ⟨hDd1.lo hx (by omega), trivial⟩, ?_⟩
          have hDd1 := (Lo.refl (by omega) : Lo w2.heap.size w1_12 w1_12)
          exact PT_nil 12 ⟨hB3.num, hB9.num, w12.heap.size, a12, c12, a15, c15⟩ rfl ⟨rfl, trivial⟩ rfl ⟨⟨by (try dsimp only [Blk.num]); omega, by (try dsimp only [Blk.num]); omega, by (try dsimp only [Blk.num]); omega, by (try dsimp only [Blk.num]); omega, by (try dsimp only [Blk.num]); omega, by (try dsimp only [Blk.num]); omega, by (try dsimp only [Blk.num]); omega⟩, hB3, hB9, hO12.off (by (try dsimp only [Blk.num]); omega) (by (try dsimp only [Blk.num]); omega) (by (try dsimp only [Blk.num]); omega), hO15.off (by (try dsimp only [Blk.num]); omega) (by (try dsimp only [Blk.num]); omega) (by (try dsimp only [Blk.num]); omega), hT⟩
        · refine PA_m w2.heap.size rfl rfl (ev_call rfl (Clone_int _ _ A.inputs _ hA.inputs (by omega) (by omega))) ?_
          rintro _ w15 ⟨a15, c15, rfl, hO15, hE15⟩
          have hz15 := hE15.size
          replace hE := hE.trans hE15
          replace hT := hT.trans hE15
          replace hDd1 := hDd1.trans hE15
          replace hA := hA.ext hE15
          replace hB1 := hB1.ext hE15
          replace hB2 := hB2.ext hE15
          replace hB3 := hB3.ext hE15
          replace hO12 := hO12.ext hE15
          replace hO15 := hO15.h
          refine ⟨by omega, fun _ hx => ⟨hDd1.lo hx (by omega), trivial⟩, ?_⟩
          have hDd1 := (Lo.refl (by omega) : Lo w2.heap.size w15 w15)
          refine PT_a ?_
          refine PA_m w2.heap.size rfl rfl (ev_makeN Try.underlying27 el69 rfl rfl rfl (by omega) (by omega)) ?_
          rintro _ w9 ⟨rfl, hN9⟩
          have hz9 := hN9.size
          replace hE := hE.trans hN9.ext
          replace hT := hT.trans hN9.ext
          replace hDd1 := hDd1.trans hN9.ext
          replace hA := hA.ext hN9.ext
          replace hB1 := hB1.ext hN9.ext
          replace hB2 := hB2.ext hN9.ext
          replace hB3 := hB3.ext hN9.ext
          replace hO12 := hO12.ext hN9.ext
          replace hO15 := hO15.ext hN9.ext
          have hB9 := hN9.blk
          refine ⟨by omega, fun _ hx => ⟨hDd1.lo hx (by omega), trivial⟩, ?_⟩
          have hDd1 := (Lo.refl (by omega) : Lo w2.heap.size w9 w9)
          refine PT_q rfl rfl (fun wq hq => ev_build3 sn29_3 rfl rfl rfl rfl rfl rfl) ?_
          refine PT_a ?_
          refine PA_s w2.heap.size rfl (ev_stores sz29 rfl rfl rfl (by simp [Value.oneCell']) hB3 (by simp)) ?_
          rintro _ w1_12 hS1_12
          have hz1_12 := hS1_12.size
          replace hE := hE.sto hS1_12 (by omega)
          replace hT := hT.sto hS1_12 (by omega)
          replace hDd1 := hDd1.sto hS1_12 (by omega)
          replace hA := hA.sto hS1_12 (by omega)
          replace hB1 := hB1.sto hS1_12 (by omega)
          replace hB2 := hB2.sto hS1_12 (by omega)
          replace hO12 := hO12.sto hS1_12 (by omega)
          replace hO15 := hO15.sto hS1_12 (by omega)
          replace hB9 := hB9.sto hS1_12 (by omega)
          replace hB3 : Blk w1_12 _ _ [_, _, _] := hS1_12.blk
          refine ⟨by omega, fun _ hx => ⟨hDd1.lo hx (by omega), trivial⟩, ?_⟩
          have hDd1 := (Lo.refl (by omega) : Lo w2.heap.size w1_12 w1_12)
          exact PT_nil 12 ⟨hB3.num, hB9.num, w12.heap.size, a12, c12, a15, c15⟩ rfl ⟨rfl, trivial⟩ rfl ⟨⟨by (try dsimp only [Blk.num]); omega, by (try dsimp only [Blk.num]); omega, by (try dsimp only [Blk.num]); omega, by (try dsimp only [Blk.num]); omega, by (try dsimp only [Blk.num]); omega, by (try dsimp only [Blk.num]); omega, by (try dsimp only [Blk.num]); omega⟩, hB3, hB9, hO12.off (by (try dsimp only [Blk.num]); omega) (by (try dsimp only [Blk.num]); omega) (by (try dsimp only [Blk.num]); omega), hO15.off (by (try dsimp only [Blk.num]); omega) (by (try dsimp only [Blk.num]); omega) (by (try dsimp only [Blk.num]); omega), hT⟩
  rintro ⟨b3, b9, m9, a12, c12, a15, c15⟩ wt1 ⟨⟨hb1, hb2, hb3, hb4, hb5, hb6, hb7⟩, hB3, hB9, hO12, hO15, hT⟩
  dsimp only [List.cons_append, List.nil_append]
  dsimp only at hb1 hb2 hb3 hb4 hb5 hb6 hb7 hB3 hB9 hO12 hO15
  replace hE := hE.trans hT
  replace hA := hA.ext hT
  replace hB1 := hB1.ext hT
  replace hB2 := hB2.ext hT
  replace hB9 : Blk wt1 b9 69 (((List.replicate A.ends.length ((none : Option Addr), 0)).zip (cpyN A.ends 0)).map fun p => rowVal p.1 p.2) := by rw [cpyN_zero, rowv_nils]; exact hB9
  refine thenE_n ?_
  refine W_seq ?_
  refine W_seq ?_
  refine W_region ?_
  refine WL_q rfl (ev_fieldAddr fo29_0 rfl) ?_
  refine WL_q rfl (ev_load one27 rfl (hB1.cell rfl)) ?_
  refine WL_q rfl (ev_len Try.underlying27 rfl) ?_
  refine WL_q rfl (ev_move rfl) ?_
  refine WL_nil ?_
  refine thenE_n ?_
  refine W_block ?_
  refine W_loopC (G := Nat × List (Option Addr × Nat)) [(2, _), (3, _), (18, _), (19, _)] ((Subs.c rfl (Subs.c rfl (Subs.c rfl (Subs.c rfl Subs.n))))) (fun ⟨i, vs⟩ => [(20, VI (i : Int))]) (fun ⟨i, vs⟩ w' => KX (b9) wt1 w' ∧ i ≤ A.ends.length ∧ Blk w' b9 69 ((vs.zip (cpyN A.ends i)).map fun p => rowVal p.1 p.2) ∧ OwnAll pairF 2 wt1.heap.size w'.heap.size w' 71 vs (cpyN A.ends i)) (fun g => A.ends.length - g.1) (0, List.replicate A.ends.length (none, 0)) ((Subs.c (lkI rfl (by omega)) Subs.n)) (⟨KX.refl _ _, ⟨Nat.zero_le _, hB9, by rw [cpyN_zero]; exact (OwnAll.nils _)⟩⟩) ?_
  rintro ⟨i, vs⟩ wL0 ⟨hRL0, hi', hBo, hOA⟩
  have hzL0 := hRL0.size
  replace hA := hA.kx hRL0 (by omega)
  replace hB1 := hB1.kx hRL0 (by omega)
  replace hB2 := hB2.kx hRL0 (by omega)
  replace hB3 := hB3.kx hRL0 (by omega)
  replace hO12 := hO12.kx hRL0 (by omega)
  replace hO15 := hO15.kx hRL0 (by omega)
  replace hE := hE.kx hRL0 (by omega)
  have hvl := hOA.len
  have hcl := cpyN_len hi'
  rw [hcl] at hvl
  refine W_seq ?_
  refine W_region ?_
  refine WL_q rfl (ev_lss rfl rfl) ?_
  refine WL_nil ?_
  refine thenE_n ?_
  refine W_seq ?_
  refine W_cond rfl (fun hg21 => ?_) (fun hg21 => ?_)
  · have hp21 := of_decide_eq_true hg21
    refine W_skip ?_
    refine thenE_n ?_
    refine W_seq ?_
    refine W_block ?_
    refine W_seq ?_
    refine W_region ?_
    refine WL_q rfl (ev_move rfl) ?_
    have hlt : i < A.ends.length := by omega
    have htl9 := totL_le hlt
    have hl23 : i < A.ends.length := by omega
    have ht23 := totL_le hl23
    obtain ⟨a23, c23, hc23, hr23⟩ := hA.ends.row hl23
    refine WL_q rfl (ev_indexAddr Try.underlying27 sz69 rfl rfl (hA.ends.isSome (by omega)) (by omega) (by omega)) ?_
    refine WL_q rfl (ev_load one69 rfl (hc23)) ?_
    refine WL_q rfl (ev_assign rfl) ?_
    refine WL_q rfl (ev_assign rfl) ?_
    refine WL_nil ?_
    refine thenE_n ?_
    refine W_drawK (b9) (fun w' => True) [(0, true), (1, true), (2, true), (3, true), (4, false), (5, true), (6, false)] mixed (by kernel_rfl) rfl (by kernel_rfl) (fun _ _ => trivial) ?_
    intro wd5 hEd5 hzd5
    replace hE := hE.trans hEd5
    replace hRL0 := hRL0.trans hEd5
    replace hA := hA.ext hEd5
    replace hB1 := hB1.ext hEd5
    replace hB2 := hB2.ext hEd5
    replace hB3 := hB3.ext hEd5
    replace hO12 := hO12.ext hEd5
    replace hO15 := hO15.ext hEd5
    replace hBo := hBo.ext hEd5
    replace hOA := hOA.ext hEd5
    replace hr23 := hr23.ext hEd5
    have hDd5 := KX.refl (b9) wd5
    refine PW_q rfl rfl (fun wq hq => ev_fieldAddr fo29_0 rfl) ?_
    refine PW_q rfl rfl (fun wq hq => ev_load one27 rfl ((hB3.kx hq.1 (by omega)).cell rfl)) ?_
    refine PW_q rfl rfl (fun wq hq => ev_move rfl) ?_
    refine PW_q rfl rfl (fun wq hq => ev_move rfl) ?_
    refine PW_m rfl rfl (ev_call rfl (Clone_end _ _ A.ends[i] _ hr23 (by omega) (by omega))) ?_
    rintro _ w29 ⟨a29, c29, rfl, hO29, hE29⟩
    have hz29 := hE29.size
    replace hE := hE.trans hE29
    replace hRL0 := hRL0.trans hE29
    replace hDd5 := hDd5.trans hE29
    replace hBo := hBo.ext hE29
    replace hO29 := hO29.h
    refine ⟨⟨hDd5, trivial⟩, ?_⟩
    refine PW_q rfl rfl (fun wq hq => ev_indexAddr Try.underlying27 sz69 rfl rfl rfl (by omega) (by omega)) ?_
    have hA_6 := hA.kx hDd5 (by omega)
    have hB1_6 := hB1.kx hDd5 (by omega)
    have hB2_6 := hB2.kx hDd5 (by omega)
    have hB3_6 := hB3.kx hDd5 (by omega)
    have hO12_6 := hO12.kx hDd5 (by omega)
    have hO15_6 := hO15.kx hDd5 (by omega)
    have hOA_6 := hOA.kx hDd5 (by omega)
    have hr23_6 := hr23.kx hDd5 (by omega)
    refine PW_s rfl (ev_store sz69 rfl rfl rfl hBo (by simp; omega)) ?_
    rintro _ w5_6 hS5_6
    have hz5_6 := hS5_6.size
    replace hE := hE.sto hS5_6 (by omega)
    replace hRL0 := hRL0.sto hS5_6 (by omega)
    replace hDd5 := hDd5.sto hS5_6 (by omega)
    replace hO29 := hO29.sto hS5_6 (by omega)
    replace hBo := hS5_6.blk
    refine ⟨⟨hDd5, trivial⟩, ?_⟩
    replace hA := hA.kx hDd5 (by omega)
    replace hB1 := hB1.kx hDd5 (by omega)
    replace hB2 := hB2.kx hDd5 (by omega)
    replace hB3 := hB3.kx hDd5 (by omega)
    replace hO12 := hO12.kx hDd5 (by omega)
    replace hO15 := hO15.kx hDd5 (by omega)
    replace hOA := hOA.kx hDd5 (by omega)
    replace hr23 := hr23.kx hDd5 (by omega)
    refine PW_nil ?_
    refine blockE_n ?_
    refine thenE_n ?_
    refine W_region ?_
    refine WL_q rfl (ev_add rfl rfl (by omega)) ?_
    refine WL_q rfl (ev_move rfl) ?_
    refine WL_nil ?_
    refine thenE_n ?_
    exact ⟨(i + 1, vs.set i (a29, c29)), (Subs.c rfl (Subs.c rfl (Subs.c rfl (Subs.c rfl Subs.n)))), (Subs.c (lkI rfl (by omega)) Subs.n), ⟨hRL0, ⟨by omega, (by have e9 := rowv_set (vs := vs) (xss := cpyN A.ends i) (i := i) (j := 0 + Int.toNat ((i : Nat) : Int) * 1) (a' := a29) (c' := c29) (ys := A.ends[i]) (by omega); rw [← cpyN_set hlt, ← e9]; exact hBo), by rw [← cpyN_set hlt]; exact hOA.put (by omega) hO29.1 (by omega) (by omega) (by omega)⟩⟩, by first | omega | (dsimp only; omega)⟩
  · have hp21 := of_decide_eq_false hg21
    refine W_exit ?_
    refine thenE_x ?_
    refine thenE_x ?_
    refine blockE_hit ?_
    refine thenE_n ?_
    refine W_seq ?_
    refine W_region ?_
    refine WL_q rfl (ev_loads st29 sz29 rfl (cellsB hB3) rfl) ?_
    refine WL_s (ev_stores sz29 rfl rfl rfl (by simp [Value.oneCell']) hB2 (by simp)) ?_
    rintro _ w7_1 hS7_1
    have hz7_1 := hS7_1.size
    replace hE := hE.sto hS7_1 (by omega)
    replace hA := hA.sto hS7_1 (by omega)
    replace hB1 := hB1.sto hS7_1 (by omega)
    replace hB3 := hB3.sto hS7_1 (by omega)
    replace hO12 := hO12.sto hS7_1 (by omega)
    replace hO15 := hO15.sto hS7_1 (by omega)
    replace hBo := hBo.sto hS7_1 (by omega)
    replace hOA := hOA.sto hS7_1 (by omega)
    replace hB2 : Blk w7_1 _ _ [_, _, _] := hS7_1.blk
    refine WL_nil ?_
    refine thenE_n ?_
    refine W_ret ?_
    refine retc rfl rfl st29 sz29 (cellsB hB2) rfl ?_
    have hi9 : i = A.ends.length := by omega
    subst hi9
    rw [cpyN_full (Nat.le_refl _)] at hBo hOA
    exact ⟨b9, wt1.heap.size, vs, ⟨some ⟨b9, 0, none⟩, A.ends.length, a12, c12, a15, c15⟩, rfl, ⟨⟨by omega, by omega, by omega⟩, ⟨rfl, rfl⟩, hBo, hOA.mono (Nat.le_refl _) (by omega), ⟨m9, by omega, by omega, hO12.up (by omega) (by omega), hO15⟩⟩, hE⟩

/-- The rows that are shifted so far: whole rows before i, of row i the first k ends. -/
def shfR (d : Int) (r : List (Int × Int)) (k : Nat) : List (Int × Int) := (r.take k).map (fun e => (e.1 + d, e.2)) ++ r.drop k
theorem shfR_len (d : Int) (r : List (Int × Int)) (k : Nat) : (shfR d r k).length = r.length := by simp [shfR]; omega
theorem shfR_zero (d : Int) (r : List (Int × Int)) : shfR d r 0 = r := by simp [shfR]
theorem shfR_full {d : Int} {r : List (Int × Int)} {k : Nat} (h : r.length ≤ k) : shfR d r k = r.map fun e => (e.1 + d, e.2) := by simp [shfR, List.take_of_length_le h, List.drop_eq_nil_of_le h]
theorem shfR_at {d : Int} {r : List (Int × Int)} {k : Nat} (h : k < r.length) {h2 : k < (shfR d r k).length} : (shfR d r k)[k] = r[k] := by
  simp only [shfR]
  rw [List.getElem_append_right (by simp; omega)]
  simp [Nat.min_eq_left (Nat.le_of_lt h)]
theorem shfR_set {d : Int} {r : List (Int × Int)} {k : Nat} (h : k < r.length) : (shfR d r k).set k (r[k].1 + d, r[k].2) = shfR d r (k + 1) := by
  have e : r.drop k = r[k] :: r.drop (k + 1) := (List.drop_eq_getElem_cons h)
  unfold shfR
  rw [e, List.set_append_right _ _ (by simp; omega), List.take_succ_eq_append_getElem h, List.map_append, List.append_assoc]
  simp [Nat.min_eq_left (Nat.le_of_lt h)]
  rw [e, List.set_cons_zero]
def shfN (d : Int) (xs : Ends) (i : Nat) : Ends := (xs.take i).map (fun r => shfR d r r.length) ++ xs.drop i

end Go.Proofs.Ytmdmpapdjgcchaa
