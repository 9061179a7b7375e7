/- Contracts of two networks beside each other, of the program and of the reference; the walks of FnExactSameView, FnExactAreTwins and FnExactSeparatingDepth. -/
import Derived.Test.YtoeencgofelgoaaNetAcc
import Derived.Test.YtoeencgofelgoaaBuild
import Derived.Test.YtoeencgofelgoaaDrawV
namespace Go.Proofs.Ytoeencgofelgoaa
open Go Go.RowKit

def shiftE (k : Int) (r : List (Int × Int)) : List (Int × Int) := r.map fun e => (e.1 + k, e.2)
/-- Two networks beside each other. -/
def uni (A B : Net) : Net := ⟨A.ends ++ B.ends.map (shiftE A.ends.length), A.ids ++ B.ids, A.inputs ++ B.inputs⟩
theorem uni_len (A B : Net) : (uni A B).ends.length = A.ends.length + B.ends.length := by simp [uni]
theorem uni_vok {A B : Net} (hA : NOk A) (hB : NOk B) : VOk (uni A B) := by
  have ha := hA.vok
  have hb := hB.vok
  have hna := hA.nodes
  have hnb := hB.nodes
  have hia := ha.inp
  have hib := hb.inp
  refine ⟨by rw [uni_len]; omega, fun r hr e he => ?_, fun r hr => ?_, fun r hr e he => ?_, by simp [uni]; omega, fun x hx => ?_⟩
  · rw [uni_len]
    rcases List.mem_append.1 hr with h | h
    · have := ha.ends r h e he; omega
    · obtain ⟨s, hs, rfl⟩ := List.mem_map.1 h
      obtain ⟨d, hd, rfl⟩ := List.mem_map.1 he
      have := hb.ends s hs d hd
      simp only []; omega
  · rcases List.mem_append.1 hr with h | h
    · exact ha.deg r h
    · obtain ⟨s, hs, rfl⟩ := List.mem_map.1 h
      simpa [shiftE] using hb.deg s hs
  · rcases List.mem_append.1 hr with h | h
    · exact ha.port r h e he
    · obtain ⟨s, hs, rfl⟩ := List.mem_map.1 h
      obtain ⟨d, hd, rfl⟩ := List.mem_map.1 he
      exact hb.port s hs d hd
  · rcases List.mem_append.1 hx with h | h
    · exact ha.inr x h
    · exact hb.inr x h
theorem shfR_all (d : Int) (r : List (Int × Int)) : shfR d r r.length = shiftE d r := shfR_full (Nat.le_refl _)
theorem shfN_len (d : Int) (xs : Ends) (i : Nat) : (shfN d xs i).length = xs.length := by simp [shfN]; omega
theorem shfN_zero (d : Int) (xs : Ends) : shfN d xs 0 = xs := by simp [shfN]
theorem shfN_full {d : Int} {xs : Ends} {i : Nat} (h : xs.length ≤ i) : shfN d xs i = xs.map (shiftE d) := by
  simp [shfN, List.take_of_length_le h, List.drop_eq_nil_of_le h]
  intro a _; exact shfR_all d a
theorem shfN_at {d : Int} {xs : Ends} {i : Nat} (h : i < xs.length) {h2 : i < (shfN d xs i).length} : (shfN d xs i)[i] = xs[i] := by
  simp only [shfN]
  rw [List.getElem_append_right (by simp; omega)]
  simp [Nat.min_eq_left (Nat.le_of_lt h)]
theorem shfN_set0 {d : Int} {xs : Ends} {i : Nat} (h : i < xs.length) : (shfN d xs i).set i (shfR d xs[i] 0) = shfN d xs i := by
  have h2 : i < (shfN d xs i).length := by rw [shfN_len]; exact h
  rw [shfR_zero, ← shfN_at h (h2 := h2), List.set_getElem_self]
theorem shfN_next {d : Int} {xs : Ends} {i k : Nat} (h : i < xs.length) (hk : xs[i].length ≤ k) : (shfN d xs i).set i (shfR d xs[i] k) = shfN d xs (i + 1) := by
  have e : shfR d xs[i] k = shfR d xs[i] xs[i].length := by rw [shfR_full hk, shfR_full (Nat.le_refl _)]
  have e2 : xs.drop i = xs[i] :: xs.drop (i + 1) := List.drop_eq_getElem_cons h
  unfold shfN
  rw [e, e2, List.set_append_right _ _ (by simp; omega), List.take_succ_eq_append_getElem h, List.map_append, List.append_assoc]
  rw [show i - ((xs.take i).map fun r => shfR d r r.length).length = 0 by simp; omega, List.set_cons_zero]
  rfl
theorem rowv_at {vs : List (Option Addr × Nat)} {xss : Ends} {i : Nat} (h : i < vs.length) (h2 : i < xss.length) : ((vs.zip xss).map fun p => rowVal p.1 p.2)[i]? = some (.slice vs[i].1 xss[i].length vs[i].2) := by
  rw [List.getElem?_eq_getElem (by simp; omega)]; simp [rowVal]
theorem rowv_shift (d : Int) : ∀ (vs : List (Option Addr × Nat)) (xss : Ends), ((vs.zip (xss.map (shiftE d))).map fun p => rowVal p.1 p.2) = (vs.zip xss).map fun p => rowVal p.1 p.2 := by
  intro vs
  induction vs with
  | nil => intro xss; simp
  | cons v vs ih =>
    intro xss
    cases xss with
    | nil => simp
    | cons x xss => simp only [List.map_cons, List.zip_cons_cons, ih]; simp [rowVal, shiftE]
theorem rowv_one (vs : List (Option Addr × Nat)) (xss : Ends) : ∀ u ∈ (vs.zip xss).map (fun p => rowVal p.1 p.2), u.oneCell' = true := by
  intro u hu
  obtain ⟨p, _, rfl⟩ := List.mem_map.1 hu
  rfl
theorem OwnAll.prows {lo hi : Nat} {w : World} {E : TypeId} {vs : List (Option Addr × Nat)} {xss : Ends} (h : OwnAll pairF 2 lo hi w E vs xss) : PRows lo hi w vs xss :=
  ⟨h.len, fun i h1 h2 => by have := h.own i h1 h2; rw [pairF_flat] at this; exact (own_p this).hi (h.top i h1)⟩
theorem OwnAll.rg {α : Type} {f : α → List Value} {sz l r lo hi p q : Nat} {w w' : World} {E : TypeId} {vs : List (Option Addr × Nat)} {xss : List (List α)} (h : OwnAll f sz l r w E vs xss) (k : Rg lo hi p q w w') (hb : (r ≤ lo ∨ hi ≤ l ∨ (p ≤ l ∧ r ≤ q)) ∧ r ≤ w.heap.size) : OwnAll f sz l r w' E vs xss := h.keep k fun b h1 h2 => ⟨by omega, by omega⟩
/-- The row that is at work. -/
theorem OwnAll.openR {lo hi : Nat} {w : World} {E : TypeId} {vs : List (Option Addr × Nat)} {X : Ends} {i : Nat} {r : List (Int × Int)} (h : OwnAll pairF 2 lo hi w E vs (X.set i r)) (h1 : i < vs.length) (h2 : i < X.length) (h0 : 0 < r.length) :
    ∃ g rest, vs[i].1 = some ⟨g, 0, none⟩ ∧ lo ≤ g ∧ g < hi ∧ Blk w g E (pairCells r ++ rest) ∧ (r.length ≤ vs[i].2 ∧ vs[i].2 ≤ maxLen ∧ (pairCells r ++ rest).length = vs[i].2 * 2) := by
  have ho := h.own i h1 (by simpa using h2)
  simp only [List.getElem_set_self] at ho
  rw [pairF_flat] at ho
  have ht := h.top i h1
  obtain ⟨g, rest, ha, hg, hB, k1, k2, k3, k4⟩ := ho.open (by rw [pairCells_length]; omega)
  exact ⟨g, rest, ha, hg, ht _ ha, hB, k1, k2, k3⟩
theorem OwnAll.closeR {lo hi : Nat} {w w' : World} {E T : TypeId} {vs : List (Option Addr × Nat)} {X : Ends} {i : Nat} {r r' : List (Int × Int)} (h : OwnAll pairF 2 lo hi w E vs (X.set i r)) (h1 : i < vs.length) (h2 : i < X.length) {g : Nat} {rest ds : List Value} (k : Sto w w' g T ds) (hv : vs[i].1 = some ⟨g, 0, none⟩) (hg : lo ≤ g)
    (hB : Blk w' g E (pairCells r' ++ rest)) (hl : r'.length = r.length) (hc : r.length ≤ vs[i].2 ∧ vs[i].2 ≤ maxLen ∧ (pairCells r ++ rest).length = vs[i].2 * 2) : OwnAll pairF 2 lo hi w' E vs (X.set i r') := by
  have := h.inpl h1 k hv (ys := r') (by
    rw [pairF_flat, hv]
    exact Own.of_front hB hg (by omega) hc.2.1 (by have := hc.2.2; simp only [List.length_append, pairCells_length] at this ⊢; omega) (pairCells_length _))
  rwa [List.set_set] at this
theorem shf_store {w : World} {g k j : Nat} {E : TypeId} {d : Int} {r : List (Int × Int)} {rest : List Value} {y : Int} (hB : Blk w g E ((pairCells (shfR d r k) ++ rest).set j (VI y))) (hj : j = k * 2) (hk : k < r.length) (hy : y = r[k].1 + d) : Blk w g E (pairCells (shfR d r (k + 1)) ++ rest) := by
  have hk2 : k < (shfR d r k).length := by rw [shfR_len]; exact hk
  subst hj; subst hy
  rw [List.set_append_left _ _ (by rw [pairCells_length]; omega), pairCells_set1 hk2, shfR_at hk, shfR_set hk] at hB
  exact hB
theorem shf_cell {d : Int} {r : List (Int × Int)} {k : Nat} {rest : List Value} (hk : k < r.length) : (pairCells (shfR d r k) ++ rest)[k * 2]? = some (VI r[k].1) := by
  have hk2 : k < (shfR d r k).length := by rw [shfR_len]; exact hk
  rw [List.getElem?_append_left (by rw [pairCells_length]; omega)]
  have e := shfR_at (d := d) hk (h2 := hk2)
  have : ∀ (xs : List (Int × Int)) (k : Nat) (h : k < xs.length), (pairCells xs)[k * 2]? = some (VI xs[k].1) := by
    intro xs
    induction xs with
    | nil => intro k h; simp at h
    | cons x xs ih =>
      intro k h
      cases k with
      | zero => rfl
      | succ k =>
        have := ih k (by simpa using h)
        show (VI x.1 :: VI x.2 :: pairCells xs)[(k + 1) * 2]? = _
        rw [show (k + 1) * 2 = k * 2 + 1 + 1 by omega, List.getElem?_cons_succ, List.getElem?_cons_succ, this]; rfl
  rw [this _ k hk2, e]
theorem OwnH.rehole {l r p q m S : Nat} {w : World} {E : TypeId} {sz n c : Nat} {a a' : Option Addr} {cs : List Value} (h : OwnH l r p q w E sz a' n c cs) (hQ : ∀ x, a' = some x → (∃ z, a = some z ∧ x.block = z.block) ∨ S ≤ x.block) (hr : ∀ z, a = some z → z.block < m) : OwnH l r m S w E sz a' n c cs :=
  ⟨h.1, fun x hx => ⟨(h.2 x hx).1, by rcases hQ x hx with ⟨z, hz, e⟩ | h1
                                      · left; rw [e]; exact hr z hz
                                      · exact .inr h1⟩⟩
theorem CopyAt.rg {l r b p lo hi p' q' : Nat} {w w' : World} {E F I : TypeId} {vs : List (Option Addr × Nat)} {h : NA} {A : Net} (c : CopyAt l r b p w E F I vs h A) (k : Rg lo hi p' q' w w') (hb : (r ≤ lo ∨ hi ≤ l ∨ (p' ≤ l ∧ r ≤ q')) ∧ r ≤ w.heap.size) : CopyAt l r b p w' E F I vs h A := c.keep k fun y h1 h2 => ⟨by omega, by omega⟩
theorem uni_val (h : NA) (A B : Net) : netV h (uni A B) = .agg #[.slice h.a1 (A.ends.length + B.ends.length) h.c1, .slice h.a2 (A.ids.length + B.ids.length) h.c2, .slice h.a3 (A.inputs.length + B.inputs.length) h.c3] := by simp [netV, uni]
theorem OwnH.sat' {l r p q : Nat} {w : World} {E : TypeId} {sz n c : Nat} {a : Option Addr} {cs : List Value} (h : OwnH l r p q w E sz a n c cs) : SAt l r w a cs := h.1.sat.hi fun x hx => (h.2 x hx).1
theorem uni_net {lo hi l r p q l2 r2 p2 q2 l3 r3 p3 q3 : Nat} {w : World} {F I : TypeId} {A B : Net} {v1 v2 : List (Option Addr × Nat)} {a a2 a3 : Option Addr} {c c2 c3 n n2 n3 : Nat} (hA : PRows lo hi w v1 A.ends) (hB : PRows lo hi w v2 (B.ends.map (shiftE A.ends.length)))
    (hO : OwnH l r p q w F 1 a n c (((v1.zip A.ends).map fun p => rowVal p.1 p.2) ++ (v2.zip B.ends).map fun p => rowVal p.1 p.2)) (hl : lo ≤ l ∧ r ≤ hi)
    (hI : OwnH l2 r2 p2 q2 w I 1 a2 n2 c2 ((A.ids ++ B.ids).map VI)) (hl2 : lo ≤ l2 ∧ r2 ≤ hi) (hJ : OwnH l3 r3 p3 q3 w I 1 a3 n3 c3 ((A.inputs ++ B.inputs).map VI)) (hl3 : lo ≤ l3 ∧ r3 ≤ hi) : IsNet lo hi w ⟨a, c, a2, c2, a3, c3⟩ (uni A B) := by
  have h1 := hA.1
  have h2 := hB.1
  rw [List.length_map] at h2
  have hcap := hO.cap
  simp only [List.length_append, List.length_map, List.length_zip] at hcap
  refine ⟨(hA.append hB).nest ?_ (by simp only [List.length_append, List.length_map]; omega), (ownt_is hI).mono hl2.1 hl2.2, (ownt_is hJ).mono hl3.1 hl3.2⟩
  rw [List.zip_append h1, List.map_append, rowv_shift]
  exact hO.sat'.mono hl.1 hl.2

set_option maxHeartbeats 8000000 in
set_option maxRecDepth 100000 in
theorem joined_spec {loA hiA : Nat} (nA : NA) (A : Net) {loB hiB : Nat} (nB : NA) (B : Net) (w : World) (hA : IsNet loA hiA w nA A) (hhiA : hiA ≤ w.heap.size) (hnA : totN A ≤ 1048576) (hB : IsNet loB hiB w nB B) (hhiB : hiB ≤ w.heap.size) (hnB : totN B ≤ 1048576) (hkA : NOk A) (hkB : NOk B) :
    Fn Try.prog 41 #[netV nA A, netV nB B] w (fun o9 w' => ∃ h', o9 = netV h' (uni A B) ∧ IsNet w.heap.size w'.heap.size w' h' (uni A B) ∧ Ext w w') := by
  have hqA := totL_len A.ends
  have hmA : totL A.ends + A.ids.length + A.inputs.length ≤ 1048576 := hnA
  have hqB := totL_len B.ends
  have hmB : totL B.ends + B.ids.length + B.inputs.length ≤ 1048576 := hnB
  have hndA := hkA.nodes
  have hndB := hkB.nodes
  have hvB := hkB.vok
  have hE := Ext.refl w
  refine Fn_of Try.func41 rfl rfl (by kernel_rfl) rfl ?_
  refine W_seq ?_
  refine W_region ?_
  refine WL_m rfl (ev_box rfl) ?_
  rintro _ w2 ⟨rfl, hN2⟩
  have hz2 := hN2.size
  replace hE := hE.trans hN2.ext
  replace hA := hA.ext hN2.ext
  replace hB := hB.ext hN2.ext
  have hB2 : Blk w2 _ _ [_, _, _] := hN2.blk
  refine WL_m rfl (ev_box rfl) ?_
  rintro _ w3 ⟨rfl, hN3⟩
  have hz3 := hN3.size
  replace hE := hE.trans hN3.ext
  replace hA := hA.ext hN3.ext
  replace hB := hB.ext hN3.ext
  replace hB2 := hB2.ext hN3.ext
  have hB3 : Blk w3 _ _ [_, _, _] := hN3.blk
  refine WL_m rfl (ev_alloc zr31) ?_
  rintro _ w4 ⟨rfl, hN4⟩
  have hz4 := hN4.size
  replace hE := hE.trans hN4.ext
  replace hA := hA.ext hN4.ext
  replace hB := hB.ext hN4.ext
  replace hB2 := hB2.ext hN4.ext
  replace hB3 := hB3.ext hN4.ext
  have hB4 : Blk w4 _ _ [_, _, _] := hN4.blk
  refine WL_nil ?_
  refine thenE_n ?_
  refine W_seq ?_
  refine W_drawT (X := Nat × Nat) (fun x => [(5, ptr x.1 0), (6, ptr x.2 0)]) (fun x w' => ∃ l1 r1 b1 p1 v1 n1 l2 r2 b2 p2 v2 n2, (w4.heap.size ≤ l1 ∧ r1 ≤ l2 ∧ r2 ≤ w'.heap.size ∧ w4.heap.size ≤ x.1 ∧ x.1 < w'.heap.size ∧ w4.heap.size ≤ x.2 ∧ x.2 < w'.heap.size ∧ x.1 ≠ x.2 ∧ (x.1 < l1 ∨ r1 ≤ x.1) ∧ (x.1 < l2 ∨ r2 ≤ x.1) ∧ (x.2 < l1 ∨ r1 ≤ x.2) ∧ (x.2 < l2 ∨ r2 ≤ x.2)) ∧ Blk w' x.1 31 [.slice n1.a1 A.ends.length n1.c1, .slice n1.a2 A.ids.length n1.c2, .slice n1.a3 A.inputs.length n1.c3] ∧ Blk w' x.2 31 [.slice n2.a1 B.ends.length n2.c1, .slice n2.a2 B.ids.length n2.c2, .slice n2.a3 B.inputs.length n2.c3] ∧ CopyAt l1 r1 b1 p1 w' 74 72 3 v1 n1 A ∧ CopyAt l2 r2 b2 p2 w' 74 72 3 v2 n2 B ∧ Ext w4 w') w4.heap.size (by omega) (.q 0 (.q 2 (.c 1 (.c 3 (.b 4 (.a 5 (.a 6 (.a 7 .done))) 5 (.a 4 (.a 6 (.a 7 .done)))) 4 (.b 3 (.a 5 (.a 6 (.a 7 .done))) 5 (.a 3 (.a 6 (.a 7 .done)))) 5 (.b 3 (.a 4 (.a 6 (.a 7 .done))) 4 (.a 3 (.a 6 (.a 7 .done))))) 4 (.b 1 (.b 3 (.a 5 (.a 6 (.a 7 .done))) 5 (.a 3 (.a 6 (.a 7 .done)))) 5 (.a 1 (.a 3 (.a 6 (.a 7 .done))))) 5 (.b 1 (.b 3 (.a 4 (.a 6 (.a 7 .done))) 4 (.a 3 (.a 6 (.a 7 .done)))) 4 (.a 1 (.a 3 (.a 6 (.a 7 .done)))))))) mixed (by kernel_rfl) rfl (by kernel_rfl) ?_ ?_
  · have hT := Ext.refl w4
    intro wd1 hEd1 hzd1
    replace hE := hE.trans hEd1
    replace hT := hT.trans hEd1
    replace hA := hA.ext hEd1
    replace hB := hB.ext hEd1
    replace hB2 := hB2.ext hEd1
    replace hB3 := hB3.ext hEd1
    replace hB4 := hB4.ext hEd1
    have hDd1 := (Lo.refl (by omega) : Lo w4.heap.size wd1 wd1)
    refine PT_q rfl rfl (fun wq hq => ev_loads st31 sz31 rfl (cellsB (hB2.lo hq.1 (by omega))) rfl) ?_
    refine PT_q rfl rfl (fun wq hq => ev_loads st31 sz31 rfl (cellsB (hB3.lo hq.1 (by omega))) rfl) ?_
    refine PT_c ?_ ?_ ?_
    · refine PA_m w4.heap.size rfl rfl (ev_call rfl (copyNetwork_spec _ A _ hA (by omega) (by omega))) ?_
      rintro _ w11 ⟨b11, p11, v11, h11, rfl, hC11, hE11⟩
      have hz11 := hE11.size
      replace hE := hE.trans hE11
      replace hT := hT.trans hE11
      replace hDd1 := hDd1.trans hE11
      replace hA := hA.ext hE11
      replace hB := hB.ext hE11
      replace hB2 := hB2.ext hE11
      replace hB3 := hB3.ext hE11
      replace hB4 := hB4.ext hE11
      have hp11 := hC11.pos
      refine ⟨by omega, fun _ hx => ⟨hDd1.lo hx (by omega), trivial⟩, ?_⟩
      have hDd1 := (Lo.refl (by omega) : Lo w4.heap.size w11 w11)
      refine PT_c ?_ ?_ ?_
      · refine PA_m w4.heap.size rfl rfl (ev_call rfl (copyNetwork_spec _ B _ hB (by omega) (by omega))) ?_
        rintro _ w13 ⟨b13, p13, v13, h13, rfl, hC13, hE13⟩
        have hz13 := hE13.size
        replace hE := hE.trans hE13
        replace hT := hT.trans hE13
        replace hDd1 := hDd1.trans hE13
        replace hA := hA.ext hE13
        replace hB := hB.ext hE13
        replace hB2 := hB2.ext hE13
        replace hB3 := hB3.ext hE13
        replace hB4 := hB4.ext hE13
        replace hC11 := hC11.ext hE13
        have hp13 := hC13.pos
        refine ⟨by omega, fun _ hx => ⟨hDd1.lo hx (by omega), trivial⟩, ?_⟩
        have hDd1 := (Lo.refl (by omega) : Lo w4.heap.size w13 w13)
        refine PT_b ?_ ?_
        · refine PA_m w4.heap.size rfl rfl (ev_alloc zr31) ?_
          rintro _ w5 ⟨rfl, hN5⟩
          have hz5 := hN5.size
          replace hE := hE.trans hN5.ext
          replace hT := hT.trans hN5.ext
          replace hDd1 := hDd1.trans hN5.ext
          replace hA := hA.ext hN5.ext
          replace hB := hB.ext hN5.ext
          replace hB2 := hB2.ext hN5.ext
          replace hB3 := hB3.ext hN5.ext
          replace hB4 := hB4.ext hN5.ext
          replace hC11 := hC11.ext hN5.ext
          replace hC13 := hC13.ext hN5.ext
          have hB5 : Blk w5 _ _ [_, _, _] := hN5.blk
          refine ⟨by omega, fun _ hx => ⟨hDd1.lo hx (by omega), trivial⟩, ?_⟩
          have hDd1 := (Lo.refl (by omega) : Lo w4.heap.size w5 w5)
          refine PT_a ?_
          refine PA_m w4.heap.size rfl rfl (ev_alloc zr31) ?_
          rintro _ w6 ⟨rfl, hN6⟩
          have hz6 := hN6.size
          replace hE := hE.trans hN6.ext
          replace hT := hT.trans hN6.ext
          replace hDd1 := hDd1.trans hN6.ext
          replace hA := hA.ext hN6.ext
          replace hB := hB.ext hN6.ext
          replace hB2 := hB2.ext hN6.ext
          replace hB3 := hB3.ext hN6.ext
          replace hB4 := hB4.ext hN6.ext
          replace hC11 := hC11.ext hN6.ext
          replace hC13 := hC13.ext hN6.ext
          replace hB5 := hB5.ext hN6.ext
          have hB6 : Blk w6 _ _ [_, _, _] := hN6.blk
          refine ⟨by omega, fun _ hx => ⟨hDd1.lo hx (by omega), trivial⟩, ?_⟩
          have hDd1 := (Lo.refl (by omega) : Lo w4.heap.size w6 w6)
          refine PT_a ?_
          refine PA_s w4.heap.size rfl (ev_stores sz31 rfl rfl rfl (by simp [Value.oneCell']) hB5 (by simp)) ?_
          rintro _ w1_6 hS1_6
          have hz1_6 := hS1_6.size
          replace hE := hE.sto hS1_6 (by omega)
          replace hT := hT.sto hS1_6 (by omega)
          replace hDd1 := hDd1.sto hS1_6 (by omega)
          replace hA := hA.sto hS1_6 (by omega)
          replace hB := hB.sto hS1_6 (by omega)
          replace hB2 := hB2.sto hS1_6 (by omega)
          replace hB3 := hB3.sto hS1_6 (by omega)
          replace hB4 := hB4.sto hS1_6 (by omega)
          replace hC11 := hC11.sto hS1_6 (by omega)
          replace hC13 := hC13.sto hS1_6 (by omega)
          replace hB6 := hB6.sto hS1_6 (by omega)
          replace hB5 : Blk w1_6 _ _ [_, _, _] := hS1_6.blk
          refine ⟨by omega, fun _ hx => ⟨hDd1.lo hx (by omega), trivial⟩, ?_⟩
          have hDd1 := (Lo.refl (by omega) : Lo w4.heap.size w1_6 w1_6)
          refine PT_a ?_
          refine PA_s w4.heap.size rfl (ev_stores sz31 rfl rfl rfl (by simp [Value.oneCell']) hB6 (by simp)) ?_
          rintro _ w1_7 hS1_7
          have hz1_7 := hS1_7.size
          replace hE := hE.sto hS1_7 (by omega)
          replace hT := hT.sto hS1_7 (by omega)
          replace hDd1 := hDd1.sto hS1_7 (by omega)
          replace hA := hA.sto hS1_7 (by omega)
          replace hB := hB.sto hS1_7 (by omega)
          replace hB2 := hB2.sto hS1_7 (by omega)
          replace hB3 := hB3.sto hS1_7 (by omega)
          replace hB4 := hB4.sto hS1_7 (by omega)
          replace hC11 := hC11.sto hS1_7 (by omega)
          replace hC13 := hC13.sto hS1_7 (by omega)
          replace hB5 := hB5.sto hS1_7 (by omega)
          replace hB6 : Blk w1_7 _ _ [_, _, _] := hS1_7.blk
          refine ⟨by omega, fun _ hx => ⟨hDd1.lo hx (by omega), trivial⟩, ?_⟩
          have hDd1 := (Lo.refl (by omega) : Lo w4.heap.size w1_7 w1_7)
          exact PT_nil 6 ⟨hB5.num, hB6.num⟩ rfl ⟨rfl, rfl, trivial⟩ rfl ⟨_, _, b11, p11, v11, h11, _, _, b13, p13, v13, h13, ⟨(by (try dsimp only [Blk.num]); omega), (by (try dsimp only [Blk.num]); omega), (by (try dsimp only [Blk.num]); omega), (by (try dsimp only [Blk.num]); omega), (by (try dsimp only [Blk.num]); omega), (by (try dsimp only [Blk.num]); omega), (by (try dsimp only [Blk.num]); omega), (by (try dsimp only [Blk.num]); omega), (by (try dsimp only [Blk.num]); omega), (by (try dsimp only [Blk.num]); omega), (by (try dsimp only [Blk.num]); omega), (by (try dsimp only [Blk.num]); omega)⟩, hB5, hB6, hC11, hC13, hT⟩
        · refine PA_m w4.heap.size rfl rfl (ev_alloc zr31) ?_
          rintro _ w6 ⟨rfl, hN6⟩
          have hz6 := hN6.size
          replace hE := hE.trans hN6.ext
          replace hT := hT.trans hN6.ext
          replace hDd1 := hDd1.trans hN6.ext
          replace hA := hA.ext hN6.ext
          replace hB := hB.ext hN6.ext
          replace hB2 := hB2.ext hN6.ext
          replace hB3 := hB3.ext hN6.ext
          replace hB4 := hB4.ext hN6.ext
          replace hC11 := hC11.ext hN6.ext
          replace hC13 := hC13.ext hN6.ext
          have hB6 : Blk w6 _ _ [_, _, _] := hN6.blk
          refine ⟨by omega, fun _ hx => ⟨hDd1.lo hx (by omega), trivial⟩, ?_⟩
          have hDd1 := (Lo.refl (by omega) : Lo w4.heap.size w6 w6)
          refine PT_a ?_
          refine PA_m w4.heap.size rfl rfl (ev_alloc zr31) ?_
          rintro _ w5 ⟨rfl, hN5⟩
          have hz5 := hN5.size
          replace hE := hE.trans hN5.ext
          replace hT := hT.trans hN5.ext
          replace hDd1 := hDd1.trans hN5.ext
          replace hA := hA.ext hN5.ext
          replace hB := hB.ext hN5.ext
          replace hB2 := hB2.ext hN5.ext
          replace hB3 := hB3.ext hN5.ext
          replace hB4 := hB4.ext hN5.ext
          replace hC11 := hC11.ext hN5.ext
          replace hC13 := hC13.ext hN5.ext
          replace hB6 := hB6.ext hN5.ext
          have hB5 : Blk w5 _ _ [_, _, _] := hN5.blk
          refine ⟨by omega, fun _ hx => ⟨hDd1.lo hx (by omega), trivial⟩, ?_⟩
          have hDd1 := (Lo.refl (by omega) : Lo w4.heap.size w5 w5)
          refine PT_a ?_
          refine PA_s w4.heap.size rfl (ev_stores sz31 rfl rfl rfl (by simp [Value.oneCell']) hB5 (by simp)) ?_
          rintro _ w1_6 hS1_6
          have hz1_6 := hS1_6.size
          replace hE := hE.sto hS1_6 (by omega)
          replace hT := hT.sto hS1_6 (by omega)
          replace hDd1 := hDd1.sto hS1_6 (by omega)
          replace hA := hA.sto hS1_6 (by omega)
          replace hB := hB.sto hS1_6 (by omega)
          replace hB2 := hB2.sto hS1_6 (by omega)
          replace hB3 := hB3.sto hS1_6 (by omega)
          replace hB4 := hB4.sto hS1_6 (by omega)
          replace hC11 := hC11.sto hS1_6 (by omega)
          replace hC13 := hC13.sto hS1_6 (by omega)
          replace hB6 := hB6.sto hS1_6 (by omega)
          replace hB5 : Blk w1_6 _ _ [_, _, _] := hS1_6.blk
          refine ⟨by omega, fun _ hx => ⟨hDd1.lo hx (by omega), trivial⟩, ?_⟩
          have hDd1 := (Lo.refl (by omega) : Lo w4.heap.size w1_6 w1_6)
          refine PT_a ?_
          refine PA_s w4.heap.size rfl (ev_stores sz31 rfl rfl rfl (by simp [Value.oneCell']) hB6 (by simp)) ?_
          rintro _ w1_7 hS1_7
          have hz1_7 := hS1_7.size
          replace hE := hE.sto hS1_7 (by omega)
          replace hT := hT.sto hS1_7 (by omega)
          replace hDd1 := hDd1.sto hS1_7 (by omega)
          replace hA := hA.sto hS1_7 (by omega)
          replace hB := hB.sto hS1_7 (by omega)
          replace hB2 := hB2.sto hS1_7 (by omega)
          replace hB3 := hB3.sto hS1_7 (by omega)
          replace hB4 := hB4.sto hS1_7 (by omega)
          replace hC11 := hC11.sto hS1_7 (by omega)
          replace hC13 := hC13.sto hS1_7 (by omega)
          replace hB5 := hB5.sto hS1_7 (by omega)
          replace hB6 : Blk w1_7 _ _ [_, _, _] := hS1_7.blk
          refine ⟨by omega, fun _ hx => ⟨hDd1.lo hx (by omega), trivial⟩, ?_⟩
          have hDd1 := (Lo.refl (by omega) : Lo w4.heap.size w1_7 w1_7)
          exact PT_nil 6 ⟨hB5.num, hB6.num⟩ rfl ⟨rfl, rfl, trivial⟩ rfl ⟨_, _, b11, p11, v11, h11, _, _, b13, p13, v13, h13, ⟨(by (try dsimp only [Blk.num]); omega), (by (try dsimp only [Blk.num]); omega), (by (try dsimp only [Blk.num]); omega), (by (try dsimp only [Blk.num]); omega), (by (try dsimp only [Blk.num]); omega), (by (try dsimp only [Blk.num]); omega), (by (try dsimp only [Blk.num]); omega), (by (try dsimp only [Blk.num]); omega), (by (try dsimp only [Blk.num]); omega), (by (try dsimp only [Blk.num]); omega), (by (try dsimp only [Blk.num]); omega), (by (try dsimp only [Blk.num]); omega)⟩, hB5, hB6, hC11, hC13, hT⟩
      · refine PA_m w4.heap.size rfl rfl (ev_alloc zr31) ?_
        rintro _ w5 ⟨rfl, hN5⟩
        have hz5 := hN5.size
        replace hE := hE.trans hN5.ext
        replace hT := hT.trans hN5.ext
        replace hDd1 := hDd1.trans hN5.ext
        replace hA := hA.ext hN5.ext
        replace hB := hB.ext hN5.ext
        replace hB2 := hB2.ext hN5.ext
        replace hB3 := hB3.ext hN5.ext
        replace hB4 := hB4.ext hN5.ext
        replace hC11 := hC11.ext hN5.ext
        have hB5 : Blk w5 _ _ [_, _, _] := hN5.blk
        refine ⟨by omega, fun _ hx => ⟨hDd1.lo hx (by omega), trivial⟩, ?_⟩
        have hDd1 := (Lo.refl (by omega) : Lo w4.heap.size w5 w5)
        refine PT_b ?_ ?_
        · refine PA_m w4.heap.size rfl rfl (ev_call rfl (copyNetwork_spec _ B _ hB (by omega) (by omega))) ?_
          rintro _ w13 ⟨b13, p13, v13, h13, rfl, hC13, hE13⟩
          have hz13 := hE13.size
          replace hE := hE.trans hE13
          replace hT := hT.trans hE13
          replace hDd1 := hDd1.trans hE13
          replace hA := hA.ext hE13
          replace hB := hB.ext hE13
          replace hB2 := hB2.ext hE13
          replace hB3 := hB3.ext hE13
          replace hB4 := hB4.ext hE13
          replace hC11 := hC11.ext hE13
          replace hB5 := hB5.ext hE13
          have hp13 := hC13.pos
          refine ⟨by omega, fun _ hx => ⟨hDd1.lo hx (by omega), trivial⟩, ?_⟩
          have hDd1 := (Lo.refl (by omega) : Lo w4.heap.size w13 w13)
          refine PT_a ?_
          refine PA_m w4.heap.size rfl rfl (ev_alloc zr31) ?_
          rintro _ w6 ⟨rfl, hN6⟩
          have hz6 := hN6.size
          replace hE := hE.trans hN6.ext
          replace hT := hT.trans hN6.ext
          replace hDd1 := hDd1.trans hN6.ext
          replace hA := hA.ext hN6.ext
          replace hB := hB.ext hN6.ext
          replace hB2 := hB2.ext hN6.ext
          replace hB3 := hB3.ext hN6.ext
          replace hB4 := hB4.ext hN6.ext
          replace hC11 := hC11.ext hN6.ext
          replace hB5 := hB5.ext hN6.ext
          replace hC13 := hC13.ext hN6.ext
          have hB6 : Blk w6 _ _ [_, _, _] := hN6.blk
          refine ⟨by omega, fun _ hx => ⟨hDd1.lo hx (by omega), trivial⟩, ?_⟩
          have hDd1 := (Lo.refl (by omega) : Lo w4.heap.size w6 w6)
          refine PT_a ?_
          refine PA_s w4.heap.size rfl (ev_stores sz31 rfl rfl rfl (by simp [Value.oneCell']) hB5 (by simp)) ?_
          rintro _ w1_6 hS1_6
          have hz1_6 := hS1_6.size
          replace hE := hE.sto hS1_6 (by omega)
          replace hT := hT.sto hS1_6 (by omega)
          replace hDd1 := hDd1.sto hS1_6 (by omega)
          replace hA := hA.sto hS1_6 (by omega)
          replace hB := hB.sto hS1_6 (by omega)
          replace hB2 := hB2.sto hS1_6 (by omega)
          replace hB3 := hB3.sto hS1_6 (by omega)
          replace hB4 := hB4.sto hS1_6 (by omega)
          replace hC11 := hC11.sto hS1_6 (by omega)
          replace hC13 := hC13.sto hS1_6 (by omega)
          replace hB6 := hB6.sto hS1_6 (by omega)
          replace hB5 : Blk w1_6 _ _ [_, _, _] := hS1_6.blk
          refine ⟨by omega, fun _ hx => ⟨hDd1.lo hx (by omega), trivial⟩, ?_⟩
          have hDd1 := (Lo.refl (by omega) : Lo w4.heap.size w1_6 w1_6)
          refine PT_a ?_
          refine PA_s w4.heap.size rfl (ev_stores sz31 rfl rfl rfl (by simp [Value.oneCell']) hB6 (by simp)) ?_
          rintro _ w1_7 hS1_7
          have hz1_7 := hS1_7.size
          replace hE := hE.sto hS1_7 (by omega)
          replace hT := hT.sto hS1_7 (by omega)
          replace hDd1 := hDd1.sto hS1_7 (by omega)
          replace hA := hA.sto hS1_7 (by omega)
          replace hB := hB.sto hS1_7 (by omega)
          replace hB2 := hB2.sto hS1_7 (by omega)
          replace hB3 := hB3.sto hS1_7 (by omega)
          replace hB4 := hB4.sto hS1_7 (by omega)
          replace hC11 := hC11.sto hS1_7 (by omega)
          replace hB5 := hB5.sto hS1_7 (by omega)
          replace hC13 := hC13.sto hS1_7 (by omega)
          replace hB6 : Blk w1_7 _ _ [_, _, _] := hS1_7.blk
          refine ⟨by omega, fun _ hx => ⟨hDd1.lo hx (by omega), trivial⟩, ?_⟩
          have hDd1 := (Lo.refl (by omega) : Lo w4.heap.size w1_7 w1_7)
          exact PT_nil 6 ⟨hB5.num, hB6.num⟩ rfl ⟨rfl, rfl, trivial⟩ rfl ⟨_, _, b11, p11, v11, h11, _, _, b13, p13, v13, h13, ⟨(by (try dsimp only [Blk.num]); omega), (by (try dsimp only [Blk.num]); omega), (by (try dsimp only [Blk.num]); omega), (by (try dsimp only [Blk.num]); omega), (by (try dsimp only [Blk.num]); omega), (by (try dsimp only [Blk.num]); omega), (by (try dsimp only [Blk.num]); omega), (by (try dsimp only [Blk.num]); omega), (by (try dsimp only [Blk.num]); omega), (by (try dsimp only [Blk.num]); omega), (by (try dsimp only [Blk.num]); omega), (by (try dsimp only [Blk.num]); omega)⟩, hB5, hB6, hC11, hC13, hT⟩
        · refine PA_m w4.heap.size rfl rfl (ev_alloc zr31) ?_
          rintro _ w6 ⟨rfl, hN6⟩
          have hz6 := hN6.size
          replace hE := hE.trans hN6.ext
          replace hT := hT.trans hN6.ext
          replace hDd1 := hDd1.trans hN6.ext
          replace hA := hA.ext hN6.ext
          replace hB := hB.ext hN6.ext
          replace hB2 := hB2.ext hN6.ext
          replace hB3 := hB3.ext hN6.ext
          replace hB4 := hB4.ext hN6.ext
          replace hC11 := hC11.ext hN6.ext
          replace hB5 := hB5.ext hN6.ext
          have hB6 : Blk w6 _ _ [_, _, _] := hN6.blk
          refine ⟨by omega, fun _ hx => ⟨hDd1.lo hx (by omega), trivial⟩, ?_⟩
          have hDd1 := (Lo.refl (by omega) : Lo w4.heap.size w6 w6)
          refine PT_a ?_
          refine PA_m w4.heap.size rfl rfl (ev_call rfl (copyNetwork_spec _ B _ hB (by omega) (by omega))) ?_
          rintro _ w13 ⟨b13, p13, v13, h13, rfl, hC13, hE13⟩
          have hz13 := hE13.size
          replace hE := hE.trans hE13
          replace hT := hT.trans hE13
          replace hDd1 := hDd1.trans hE13
          replace hA := hA.ext hE13
          replace hB := hB.ext hE13
          replace hB2 := hB2.ext hE13
          replace hB3 := hB3.ext hE13
          replace hB4 := hB4.ext hE13
          replace hC11 := hC11.ext hE13
          replace hB5 := hB5.ext hE13
          replace hB6 := hB6.ext hE13
          have hp13 := hC13.pos
          refine ⟨by omega, fun _ hx => ⟨hDd1.lo hx (by omega), trivial⟩, ?_⟩
          have hDd1 := (Lo.refl (by omega) : Lo w4.heap.size w13 w13)
          refine PT_a ?_
          refine PA_s w4.heap.size rfl (ev_stores sz31 rfl rfl rfl (by simp [Value.oneCell']) hB5 (by simp)) ?_
          rintro _ w1_6 hS1_6
          have hz1_6 := hS1_6.size
          replace hE := hE.sto hS1_6 (by omega)
          replace hT := hT.sto hS1_6 (by omega)
          replace hDd1 := hDd1.sto hS1_6 (by omega)
          replace hA := hA.sto hS1_6 (by omega)
          replace hB := hB.sto hS1_6 (by omega)
          replace hB2 := hB2.sto hS1_6 (by omega)
          replace hB3 := hB3.sto hS1_6 (by omega)
          replace hB4 := hB4.sto hS1_6 (by omega)
          replace hC11 := hC11.sto hS1_6 (by omega)
          replace hB6 := hB6.sto hS1_6 (by omega)
          replace hC13 := hC13.sto hS1_6 (by omega)
          replace hB5 : Blk w1_6 _ _ [_, _, _] := hS1_6.blk
          refine ⟨by omega, fun _ hx => ⟨hDd1.lo hx (by omega), trivial⟩, ?_⟩
          have hDd1 := (Lo.refl (by omega) : Lo w4.heap.size w1_6 w1_6)
          refine PT_a ?_
          refine PA_s w4.heap.size rfl (ev_stores sz31 rfl rfl rfl (by simp [Value.oneCell']) hB6 (by simp)) ?_
          rintro _ w1_7 hS1_7
          have hz1_7 := hS1_7.size
          replace hE := hE.sto hS1_7 (by omega)
          replace hT := hT.sto hS1_7 (by omega)
          replace hDd1 := hDd1.sto hS1_7 (by omega)
          replace hA := hA.sto hS1_7 (by omega)
          replace hB := hB.sto hS1_7 (by omega)
          replace hB2 := hB2.sto hS1_7 (by omega)
          replace hB3 := hB3.sto hS1_7 (by omega)
          replace hB4 := hB4.sto hS1_7 (by omega)
          replace hC11 := hC11.sto hS1_7 (by omega)
          replace hB5 := hB5.sto hS1_7 (by omega)
          replace hC13 := hC13.sto hS1_7 (by omega)
          replace hB6 : Blk w1_7 _ _ [_, _, _] := hS1_7.blk
          refine ⟨by omega, fun _ hx => ⟨hDd1.lo hx (by omega), trivial⟩, ?_⟩
          have hDd1 := (Lo.refl (by omega) : Lo w4.heap.size w1_7 w1_7)
          exact PT_nil 6 ⟨hB5.num, hB6.num⟩ rfl ⟨rfl, rfl, trivial⟩ rfl ⟨_, _, b11, p11, v11, h11, _, _, b13, p13, v13, h13, ⟨(by (try dsimp only [Blk.num]); omega), (by (try dsimp only [Blk.num]); omega), (by (try dsimp only [Blk.num]); omega), (by (try dsimp only [Blk.num]); omega), (by (try dsimp only [Blk.num]); omega), (by (try dsimp only [Blk.num]); omega), (by (try dsimp only [Blk.num]); omega), (by (try dsimp only [Blk.num]); omega), (by (try dsimp only [Blk.num]); omega), (by (try dsimp only [Blk.num]); omega), (by (try dsimp only [Blk.num]); omega), (by (try dsimp only [Blk.num]); omega)⟩, hB5, hB6, hC11, hC13, hT⟩
      · refine PA_m w4.heap.size rfl rfl (ev_alloc zr31) ?_
        rintro _ w6 ⟨rfl, hN6⟩
        have hz6 := hN6.size
        replace hE := hE.trans hN6.ext
        replace hT := hT.trans hN6.ext
        replace hDd1 := hDd1.trans hN6.ext
        replace hA := hA.ext hN6.ext
        replace hB := hB.ext hN6.ext
        replace hB2 := hB2.ext hN6.ext
        replace hB3 := hB3.ext hN6.ext
        replace hB4 := hB4.ext hN6.ext
        replace hC11 := hC11.ext hN6.ext
        have hB6 : Blk w6 _ _ [_, _, _] := hN6.blk
        refine ⟨by omega, fun _ hx => ⟨hDd1.lo hx (by omega), trivial⟩, ?_⟩
        have hDd1 := (Lo.refl (by omega) : Lo w4.heap.size w6 w6)
        refine PT_b ?_ ?_
        · refine PA_m w4.heap.size rfl rfl (ev_call rfl (copyNetwork_spec _ B _ hB (by omega) (by omega))) ?_
          rintro _ w13 ⟨b13, p13, v13, h13, rfl, hC13, hE13⟩
          have hz13 := hE13.size
          replace hE := hE.trans hE13
          replace hT := hT.trans hE13
          replace hDd1 := hDd1.trans hE13
          replace hA := hA.ext hE13
          replace hB := hB.ext hE13
          replace hB2 := hB2.ext hE13
          replace hB3 := hB3.ext hE13
          replace hB4 := hB4.ext hE13
          replace hC11 := hC11.ext hE13
          replace hB6 := hB6.ext hE13
          have hp13 := hC13.pos
          refine ⟨by omega, fun _ hx => ⟨hDd1.lo hx (by omega), trivial⟩, ?_⟩
          have hDd1 := (Lo.refl (by omega) : Lo w4.heap.size w13 w13)
          refine PT_a ?_
          refine PA_m w4.heap.size rfl rfl (ev_alloc zr31) ?_
          rintro _ w5 ⟨rfl, hN5⟩
          have hz5 := hN5.size
          replace hE := hE.trans hN5.ext
          replace hT := hT.trans hN5.ext
          replace hDd1 := hDd1.trans hN5.ext
          replace hA := hA.ext hN5.ext
          replace hB := hB.ext hN5.ext
          replace hB2 := hB2.ext hN5.ext
          replace hB3 := hB3.ext hN5.ext
          replace hB4 := hB4.ext hN5.ext
          replace hC11 := hC11.ext hN5.ext
          replace hB6 := hB6.ext hN5.ext
          replace hC13 := hC13.ext hN5.ext
          have hB5 : Blk w5 _ _ [_, _, _] := hN5.blk
          refine ⟨by omega, fun _ hx => ⟨hDd1.lo hx (by omega), trivial⟩, ?_⟩
          have hDd1 := (Lo.refl (by omega) : Lo w4.heap.size w5 w5)
          refine PT_a ?_
          refine PA_s w4.heap.size rfl (ev_stores sz31 rfl rfl rfl (by simp [Value.oneCell']) hB5 (by simp)) ?_
          rintro _ w1_6 hS1_6
          have hz1_6 := hS1_6.size
          replace hE := hE.sto hS1_6 (by omega)
          replace hT := hT.sto hS1_6 (by omega)
          replace hDd1 := hDd1.sto hS1_6 (by omega)
          replace hA := hA.sto hS1_6 (by omega)
          replace hB := hB.sto hS1_6 (by omega)
          replace hB2 := hB2.sto hS1_6 (by omega)
          replace hB3 := hB3.sto hS1_6 (by omega)
          replace hB4 := hB4.sto hS1_6 (by omega)
          replace hC11 := hC11.sto hS1_6 (by omega)
          replace hB6 := hB6.sto hS1_6 (by omega)
          replace hC13 := hC13.sto hS1_6 (by omega)
          replace hB5 : Blk w1_6 _ _ [_, _, _] := hS1_6.blk
          refine ⟨by omega, fun _ hx => ⟨hDd1.lo hx (by omega), trivial⟩, ?_⟩
          have hDd1 := (Lo.refl (by omega) : Lo w4.heap.size w1_6 w1_6)
          refine PT_a ?_
          refine PA_s w4.heap.size rfl (ev_stores sz31 rfl rfl rfl (by simp [Value.oneCell']) hB6 (by simp)) ?_
          rintro _ w1_7 hS1_7
          have hz1_7 := hS1_7.size
          replace hE := hE.sto hS1_7 (by omega)
          replace hT := hT.sto hS1_7 (by omega)
          replace hDd1 := hDd1.sto hS1_7 (by omega)
          replace hA := hA.sto hS1_7 (by omega)
          replace hB := hB.sto hS1_7 (by omega)
          replace hB2 := hB2.sto hS1_7 (by omega)
          replace hB3 := hB3.sto hS1_7 (by omega)
          replace hB4 := hB4.sto hS1_7 (by omega)
          replace hC11 := hC11.sto hS1_7 (by omega)
          replace hC13 := hC13.sto hS1_7 (by omega)
          replace hB5 := hB5.sto hS1_7 (by omega)
          replace hB6 : Blk w1_7 _ _ [_, _, _] := hS1_7.blk
          refine ⟨by omega, fun _ hx => ⟨hDd1.lo hx (by omega), trivial⟩, ?_⟩
          have hDd1 := (Lo.refl (by omega) : Lo w4.heap.size w1_7 w1_7)
          exact PT_nil 6 ⟨hB5.num, hB6.num⟩ rfl ⟨rfl, rfl, trivial⟩ rfl ⟨_, _, b11, p11, v11, h11, _, _, b13, p13, v13, h13, ⟨(by (try dsimp only [Blk.num]); omega), (by (try dsimp only [Blk.num]); omega), (by (try dsimp only [Blk.num]); omega), (by (try dsimp only [Blk.num]); omega), (by (try dsimp only [Blk.num]); omega), (by (try dsimp only [Blk.num]); omega), (by (try dsimp only [Blk.num]); omega), (by (try dsimp only [Blk.num]); omega), (by (try dsimp only [Blk.num]); omega), (by (try dsimp only [Blk.num]); omega), (by (try dsimp only [Blk.num]); omega), (by (try dsimp only [Blk.num]); omega)⟩, hB5, hB6, hC11, hC13, hT⟩
        · refine PA_m w4.heap.size rfl rfl (ev_alloc zr31) ?_
          rintro _ w5 ⟨rfl, hN5⟩
          have hz5 := hN5.size
          replace hE := hE.trans hN5.ext
          replace hT := hT.trans hN5.ext
          replace hDd1 := hDd1.trans hN5.ext
          replace hA := hA.ext hN5.ext
          replace hB := hB.ext hN5.ext
          replace hB2 := hB2.ext hN5.ext
          replace hB3 := hB3.ext hN5.ext
          replace hB4 := hB4.ext hN5.ext
          replace hC11 := hC11.ext hN5.ext
          replace hB6 := hB6.ext hN5.ext
          have hB5 : Blk w5 _ _ [_, _, _] := hN5.blk
          refine ⟨by omega, fun _ hx => ⟨hDd1.lo hx (by omega), trivial⟩, ?_⟩
          have hDd1 := (Lo.refl (by omega) : Lo w4.heap.size w5 w5)
          refine PT_a ?_
          refine PA_m w4.heap.size rfl rfl (ev_call rfl (copyNetwork_spec _ B _ hB (by omega) (by omega))) ?_
          rintro _ w13 ⟨b13, p13, v13, h13, rfl, hC13, hE13⟩
          have hz13 := hE13.size
          replace hE := hE.trans hE13
          replace hT := hT.trans hE13
          replace hDd1 := hDd1.trans hE13
          replace hA := hA.ext hE13
          replace hB := hB.ext hE13
          replace hB2 := hB2.ext hE13
          replace hB3 := hB3.ext hE13
          replace hB4 := hB4.ext hE13
          replace hC11 := hC11.ext hE13
          replace hB6 := hB6.ext hE13
          replace hB5 := hB5.ext hE13
          have hp13 := hC13.pos
          refine ⟨by omega, fun _ hx => ⟨hDd1.lo hx (by omega), trivial⟩, ?_⟩
          have hDd1 := (Lo.refl (by omega) : Lo w4.heap.size w13 w13)
          refine PT_a ?_
          refine PA_s w4.heap.size rfl (ev_stores sz31 rfl rfl rfl (by simp [Value.oneCell']) hB5 (by simp)) ?_
          rintro _ w1_6 hS1_6
          have hz1_6 := hS1_6.size
          replace hE := hE.sto hS1_6 (by omega)
          replace hT := hT.sto hS1_6 (by omega)
          replace hDd1 := hDd1.sto hS1_6 (by omega)
          replace hA := hA.sto hS1_6 (by omega)
          replace hB := hB.sto hS1_6 (by omega)
          replace hB2 := hB2.sto hS1_6 (by omega)
          replace hB3 := hB3.sto hS1_6 (by omega)
          replace hB4 := hB4.sto hS1_6 (by omega)
          replace hC11 := hC11.sto hS1_6 (by omega)
          replace hB6 := hB6.sto hS1_6 (by omega)
          replace hC13 := hC13.sto hS1_6 (by omega)
          replace hB5 : Blk w1_6 _ _ [_, _, _] := hS1_6.blk
          refine ⟨by omega, fun _ hx => ⟨hDd1.lo hx (by omega), trivial⟩, ?_⟩
          have hDd1 := (Lo.refl (by omega) : Lo w4.heap.size w1_6 w1_6)
          refine PT_a ?_
          refine PA_s w4.heap.size rfl (ev_stores sz31 rfl rfl rfl (by simp [Value.oneCell']) hB6 (by simp)) ?_
          rintro _ w1_7 hS1_7
          have hz1_7 := hS1_7.size
          replace hE := hE.sto hS1_7 (by omega)
          replace hT := hT.sto hS1_7 (by omega)
          replace hDd1 := hDd1.sto hS1_7 (by omega)
          replace hA := hA.sto hS1_7 (by omega)
          replace hB := hB.sto hS1_7 (by omega)
          replace hB2 := hB2.sto hS1_7 (by omega)
          replace hB3 := hB3.sto hS1_7 (by omega)
          replace hB4 := hB4.sto hS1_7 (by omega)
          replace hC11 := hC11.sto hS1_7 (by omega)
          replace hB5 := hB5.sto hS1_7 (by omega)
          replace hC13 := hC13.sto hS1_7 (by omega)
          replace hB6 : Blk w1_7 _ _ [_, _, _] := hS1_7.blk
          refine ⟨by omega, fun _ hx => ⟨hDd1.lo hx (by omega), trivial⟩, ?_⟩
          have hDd1 := (Lo.refl (by omega) : Lo w4.heap.size w1_7 w1_7)
          exact PT_nil 6 ⟨hB5.num, hB6.num⟩ rfl ⟨rfl, rfl, trivial⟩ rfl ⟨_, _, b11, p11, v11, h11, _, _, b13, p13, v13, h13, ⟨(by (try dsimp only [Blk.num]); omega), (by (try dsimp only [Blk.num]); omega), (by (try dsimp only [Blk.num]); omega), (by (try dsimp only [Blk.num]); omega), (by (try dsimp only [Blk.num]); omega), (by (try dsimp only [Blk.num]); omega), (by (try dsimp only [Blk.num]); omega), (by (try dsimp only [Blk.num]); omega), (by (try dsimp only [Blk.num]); omega), (by (try dsimp only [Blk.num]); omega), (by (try dsimp only [Blk.num]); omega), (by (try dsimp only [Blk.num]); omega)⟩, hB5, hB6, hC11, hC13, hT⟩
    · refine PA_m w4.heap.size rfl rfl (ev_alloc zr31) ?_
      rintro _ w5 ⟨rfl, hN5⟩
      have hz5 := hN5.size
      replace hE := hE.trans hN5.ext
      replace hT := hT.trans hN5.ext
      replace hDd1 := hDd1.trans hN5.ext
      replace hA := hA.ext hN5.ext
      replace hB := hB.ext hN5.ext
      replace hB2 := hB2.ext hN5.ext
      replace hB3 := hB3.ext hN5.ext
      replace hB4 := hB4.ext hN5.ext
      have hB5 : Blk w5 _ _ [_, _, _] := hN5.blk
      refine ⟨by omega, fun _ hx => ⟨hDd1.lo hx (by omega), trivial⟩, ?_⟩
      have hDd1 := (Lo.refl (by omega) : Lo w4.heap.size w5 w5)
      refine PT_b ?_ ?_
      · refine PA_m w4.heap.size rfl rfl (ev_call rfl (copyNetwork_spec _ A _ hA (by omega) (by omega))) ?_
        rintro _ w11 ⟨b11, p11, v11, h11, rfl, hC11, hE11⟩
        have hz11 := hE11.size
        replace hE := hE.trans hE11
        replace hT := hT.trans hE11
        replace hDd1 := hDd1.trans hE11
        replace hA := hA.ext hE11
        replace hB := hB.ext hE11
        replace hB2 := hB2.ext hE11
        replace hB3 := hB3.ext hE11
        replace hB4 := hB4.ext hE11
        replace hB5 := hB5.ext hE11
        have hp11 := hC11.pos
        refine ⟨by omega, fun _ hx => ⟨hDd1.lo hx (by omega), trivial⟩, ?_⟩
        have hDd1 := (Lo.refl (by omega) : Lo w4.heap.size w11 w11)
        refine PT_b ?_ ?_
        · refine PA_m w4.heap.size rfl rfl (ev_call rfl (copyNetwork_spec _ B _ hB (by omega) (by omega))) ?_
          rintro _ w13 ⟨b13, p13, v13, h13, rfl, hC13, hE13⟩
          have hz13 := hE13.size
          replace hE := hE.trans hE13
          replace hT := hT.trans hE13
          replace hDd1 := hDd1.trans hE13
          replace hA := hA.ext hE13
          replace hB := hB.ext hE13
          replace hB2 := hB2.ext hE13
          replace hB3 := hB3.ext hE13
          replace hB4 := hB4.ext hE13
          replace hB5 := hB5.ext hE13
          replace hC11 := hC11.ext hE13
          have hp13 := hC13.pos
          refine ⟨by omega, fun _ hx => ⟨hDd1.lo hx (by omega), trivial⟩, ?_⟩
          have hDd1 := (Lo.refl (by omega) : Lo w4.heap.size w13 w13)
          refine PT_a ?_
          refine PA_m w4.heap.size rfl rfl (ev_alloc zr31) ?_
          rintro _ w6 ⟨rfl, hN6⟩
          have hz6 := hN6.size
          replace hE := hE.trans hN6.ext
          replace hT := hT.trans hN6.ext
          replace hDd1 := hDd1.trans hN6.ext
          replace hA := hA.ext hN6.ext
          replace hB := hB.ext hN6.ext
          replace hB2 := hB2.ext hN6.ext
          replace hB3 := hB3.ext hN6.ext
          replace hB4 := hB4.ext hN6.ext
          replace hB5 := hB5.ext hN6.ext
          replace hC11 := hC11.ext hN6.ext
          replace hC13 := hC13.ext hN6.ext
          have hB6 : Blk w6 _ _ [_, _, _] := hN6.blk
          refine ⟨by omega, fun _ hx => ⟨hDd1.lo hx (by omega), trivial⟩, ?_⟩
          have hDd1 := (Lo.refl (by omega) : Lo w4.heap.size w6 w6)
          refine PT_a ?_
          refine PA_s w4.heap.size rfl (ev_stores sz31 rfl rfl rfl (by simp [Value.oneCell']) hB5 (by simp)) ?_
          rintro _ w1_6 hS1_6
          have hz1_6 := hS1_6.size
          replace hE := hE.sto hS1_6 (by omega)
          replace hT := hT.sto hS1_6 (by omega)
          replace hDd1 := hDd1.sto hS1_6 (by omega)
          replace hA := hA.sto hS1_6 (by omega)
          replace hB := hB.sto hS1_6 (by omega)
          replace hB2 := hB2.sto hS1_6 (by omega)
          replace hB3 := hB3.sto hS1_6 (by omega)
          replace hB4 := hB4.sto hS1_6 (by omega)
          replace hC11 := hC11.sto hS1_6 (by omega)
          replace hC13 := hC13.sto hS1_6 (by omega)
          replace hB6 := hB6.sto hS1_6 (by omega)
          replace hB5 : Blk w1_6 _ _ [_, _, _] := hS1_6.blk
          refine ⟨by omega, fun _ hx => ⟨hDd1.lo hx (by omega), trivial⟩, ?_⟩
          have hDd1 := (Lo.refl (by omega) : Lo w4.heap.size w1_6 w1_6)
          refine PT_a ?_
          refine PA_s w4.heap.size rfl (ev_stores sz31 rfl rfl rfl (by simp [Value.oneCell']) hB6 (by simp)) ?_
          rintro _ w1_7 hS1_7
          have hz1_7 := hS1_7.size
          replace hE := hE.sto hS1_7 (by omega)
          replace hT := hT.sto hS1_7 (by omega)
          replace hDd1 := hDd1.sto hS1_7 (by omega)
          replace hA := hA.sto hS1_7 (by omega)
          replace hB := hB.sto hS1_7 (by omega)
          replace hB2 := hB2.sto hS1_7 (by omega)
          replace hB3 := hB3.sto hS1_7 (by omega)
          replace hB4 := hB4.sto hS1_7 (by omega)
          replace hB5 := hB5.sto hS1_7 (by omega)
          replace hC11 := hC11.sto hS1_7 (by omega)
          replace hC13 := hC13.sto hS1_7 (by omega)
          replace hB6 : Blk w1_7 _ _ [_, _, _] := hS1_7.blk
          refine ⟨by omega, fun _ hx => ⟨hDd1.lo hx (by omega), trivial⟩, ?_⟩
          have hDd1 := (Lo.refl (by omega) : Lo w4.heap.size w1_7 w1_7)
          exact PT_nil 6 ⟨hB5.num, hB6.num⟩ rfl ⟨rfl, rfl, trivial⟩ rfl ⟨_, _, b11, p11, v11, h11, _, _, b13, p13, v13, h13, ⟨(by (try dsimp only [Blk.num]); omega), (by (try dsimp only [Blk.num]); omega), (by (try dsimp only [Blk.num]); omega), (by (try dsimp only [Blk.num]); omega), (by (try dsimp only [Blk.num]); omega), (by (try dsimp only [Blk.num]); omega), (by (try dsimp only [Blk.num]); omega), (by (try dsimp only [Blk.num]); omega), (by (try dsimp only [Blk.num]); omega), (by (try dsimp only [Blk.num]); omega), (by (try dsimp only [Blk.num]); omega), (by (try dsimp only [Blk.num]); omega)⟩, hB5, hB6, hC11, hC13, hT⟩
        · refine PA_m w4.heap.size rfl rfl (ev_alloc zr31) ?_
          rintro _ w6 ⟨rfl, hN6⟩
          have hz6 := hN6.size
          replace hE := hE.trans hN6.ext
          replace hT := hT.trans hN6.ext
          replace hDd1 := hDd1.trans hN6.ext
          replace hA := hA.ext hN6.ext
          replace hB := hB.ext hN6.ext
          replace hB2 := hB2.ext hN6.ext
          replace hB3 := hB3.ext hN6.ext
          replace hB4 := hB4.ext hN6.ext
          replace hB5 := hB5.ext hN6.ext
          replace hC11 := hC11.ext hN6.ext
          have hB6 : Blk w6 _ _ [_, _, _] := hN6.blk
          refine ⟨by omega, fun _ hx => ⟨hDd1.lo hx (by omega), trivial⟩, ?_⟩
          have hDd1 := (Lo.refl (by omega) : Lo w4.heap.size w6 w6)
          refine PT_a ?_
          refine PA_m w4.heap.size rfl rfl (ev_call rfl (copyNetwork_spec _ B _ hB (by omega) (by omega))) ?_
          rintro _ w13 ⟨b13, p13, v13, h13, rfl, hC13, hE13⟩
          have hz13 := hE13.size
          replace hE := hE.trans hE13
          replace hT := hT.trans hE13
          replace hDd1 := hDd1.trans hE13
          replace hA := hA.ext hE13
          replace hB := hB.ext hE13
          replace hB2 := hB2.ext hE13
          replace hB3 := hB3.ext hE13
          replace hB4 := hB4.ext hE13
          replace hB5 := hB5.ext hE13
          replace hC11 := hC11.ext hE13
          replace hB6 := hB6.ext hE13
          have hp13 := hC13.pos
          refine ⟨by omega, fun _ hx => ⟨hDd1.lo hx (by omega), trivial⟩, ?_⟩
          have hDd1 := (Lo.refl (by omega) : Lo w4.heap.size w13 w13)
          refine PT_a ?_
          refine PA_s w4.heap.size rfl (ev_stores sz31 rfl rfl rfl (by simp [Value.oneCell']) hB5 (by simp)) ?_
          rintro _ w1_6 hS1_6
          have hz1_6 := hS1_6.size
          replace hE := hE.sto hS1_6 (by omega)
          replace hT := hT.sto hS1_6 (by omega)
          replace hDd1 := hDd1.sto hS1_6 (by omega)
          replace hA := hA.sto hS1_6 (by omega)
          replace hB := hB.sto hS1_6 (by omega)
          replace hB2 := hB2.sto hS1_6 (by omega)
          replace hB3 := hB3.sto hS1_6 (by omega)
          replace hB4 := hB4.sto hS1_6 (by omega)
          replace hC11 := hC11.sto hS1_6 (by omega)
          replace hB6 := hB6.sto hS1_6 (by omega)
          replace hC13 := hC13.sto hS1_6 (by omega)
          replace hB5 : Blk w1_6 _ _ [_, _, _] := hS1_6.blk
          refine ⟨by omega, fun _ hx => ⟨hDd1.lo hx (by omega), trivial⟩, ?_⟩
          have hDd1 := (Lo.refl (by omega) : Lo w4.heap.size w1_6 w1_6)
          refine PT_a ?_
          refine PA_s w4.heap.size rfl (ev_stores sz31 rfl rfl rfl (by simp [Value.oneCell']) hB6 (by simp)) ?_
          rintro _ w1_7 hS1_7
          have hz1_7 := hS1_7.size
          replace hE := hE.sto hS1_7 (by omega)
          replace hT := hT.sto hS1_7 (by omega)
          replace hDd1 := hDd1.sto hS1_7 (by omega)
          replace hA := hA.sto hS1_7 (by omega)
          replace hB := hB.sto hS1_7 (by omega)
          replace hB2 := hB2.sto hS1_7 (by omega)
          replace hB3 := hB3.sto hS1_7 (by omega)
          replace hB4 := hB4.sto hS1_7 (by omega)
          replace hB5 := hB5.sto hS1_7 (by omega)
          replace hC11 := hC11.sto hS1_7 (by omega)
          replace hC13 := hC13.sto hS1_7 (by omega)
          replace hB6 : Blk w1_7 _ _ [_, _, _] := hS1_7.blk
          refine ⟨by omega, fun _ hx => ⟨hDd1.lo hx (by omega), trivial⟩, ?_⟩
          have hDd1 := (Lo.refl (by omega) : Lo w4.heap.size w1_7 w1_7)
          exact PT_nil 6 ⟨hB5.num, hB6.num⟩ rfl ⟨rfl, rfl, trivial⟩ rfl ⟨_, _, b11, p11, v11, h11, _, _, b13, p13, v13, h13, ⟨(by (try dsimp only [Blk.num]); omega), (by (try dsimp only [Blk.num]); omega), (by (try dsimp only [Blk.num]); omega), (by (try dsimp only [Blk.num]); omega), (by (try dsimp only [Blk.num]); omega), (by (try dsimp only [Blk.num]); omega), (by (try dsimp only [Blk.num]); omega), (by (try dsimp only [Blk.num]); omega), (by (try dsimp only [Blk.num]); omega), (by (try dsimp only [Blk.num]); omega), (by (try dsimp only [Blk.num]); omega), (by (try dsimp only [Blk.num]); omega)⟩, hB5, hB6, hC11, hC13, hT⟩
      · refine PA_m w4.heap.size rfl rfl (ev_alloc zr31) ?_
        rintro _ w6 ⟨rfl, hN6⟩
        have hz6 := hN6.size
        replace hE := hE.trans hN6.ext
        replace hT := hT.trans hN6.ext
        replace hDd1 := hDd1.trans hN6.ext
        replace hA := hA.ext hN6.ext
        replace hB := hB.ext hN6.ext
        replace hB2 := hB2.ext hN6.ext
        replace hB3 := hB3.ext hN6.ext
        replace hB4 := hB4.ext hN6.ext
        replace hB5 := hB5.ext hN6.ext
        have hB6 : Blk w6 _ _ [_, _, _] := hN6.blk
        refine ⟨by omega, fun _ hx => ⟨hDd1.lo hx (by omega), trivial⟩, ?_⟩
        have hDd1 := (Lo.refl (by omega) : Lo w4.heap.size w6 w6)
        refine PT_a ?_
        refine PA_m w4.heap.size rfl rfl (ev_call rfl (copyNetwork_spec _ A _ hA (by omega) (by omega))) ?_
        rintro _ w11 ⟨b11, p11, v11, h11, rfl, hC11, hE11⟩
        have hz11 := hE11.size
        replace hE := hE.trans hE11
        replace hT := hT.trans hE11
        replace hDd1 := hDd1.trans hE11
        replace hA := hA.ext hE11
        replace hB := hB.ext hE11
        replace hB2 := hB2.ext hE11
        replace hB3 := hB3.ext hE11
        replace hB4 := hB4.ext hE11
        replace hB5 := hB5.ext hE11
        replace hB6 := hB6.ext hE11
        have hp11 := hC11.pos
        refine ⟨by omega, fun _ hx => ⟨hDd1.lo hx (by omega), trivial⟩, ?_⟩
        have hDd1 := (Lo.refl (by omega) : Lo w4.heap.size w11 w11)
        refine PT_a ?_
        refine PA_m w4.heap.size rfl rfl (ev_call rfl (copyNetwork_spec _ B _ hB (by omega) (by omega))) ?_
        rintro _ w13 ⟨b13, p13, v13, h13, rfl, hC13, hE13⟩
        have hz13 := hE13.size
        replace hE := hE.trans hE13
        replace hT := hT.trans hE13
        replace hDd1 := hDd1.trans hE13
        replace hA := hA.ext hE13
        replace hB := hB.ext hE13
        replace hB2 := hB2.ext hE13
        replace hB3 := hB3.ext hE13
        replace hB4 := hB4.ext hE13
        replace hB5 := hB5.ext hE13
        replace hB6 := hB6.ext hE13
        replace hC11 := hC11.ext hE13
        have hp13 := hC13.pos
        refine ⟨by omega, fun _ hx => ⟨hDd1.lo hx (by omega), trivial⟩, ?_⟩
        have hDd1 := (Lo.refl (by omega) : Lo w4.heap.size w13 w13)
        refine PT_a ?_
        refine PA_s w4.heap.size rfl (ev_stores sz31 rfl rfl rfl (by simp [Value.oneCell']) hB5 (by simp)) ?_
        rintro _ w1_6 hS1_6
        have hz1_6 := hS1_6.size
        replace hE := hE.sto hS1_6 (by omega)
        replace hT := hT.sto hS1_6 (by omega)
        replace hDd1 := hDd1.sto hS1_6 (by omega)
        replace hA := hA.sto hS1_6 (by omega)
        replace hB := hB.sto hS1_6 (by omega)
        replace hB2 := hB2.sto hS1_6 (by omega)
        replace hB3 := hB3.sto hS1_6 (by omega)
        replace hB4 := hB4.sto hS1_6 (by omega)
        replace hB6 := hB6.sto hS1_6 (by omega)
        replace hC11 := hC11.sto hS1_6 (by omega)
        replace hC13 := hC13.sto hS1_6 (by omega)
        replace hB5 : Blk w1_6 _ _ [_, _, _] := hS1_6.blk
        refine ⟨by omega, fun _ hx => ⟨hDd1.lo hx (by omega), trivial⟩, ?_⟩
        have hDd1 := (Lo.refl (by omega) : Lo w4.heap.size w1_6 w1_6)
        refine PT_a ?_
        refine PA_s w4.heap.size rfl (ev_stores sz31 rfl rfl rfl (by simp [Value.oneCell']) hB6 (by simp)) ?_
        rintro _ w1_7 hS1_7
        have hz1_7 := hS1_7.size
        replace hE := hE.sto hS1_7 (by omega)
        replace hT := hT.sto hS1_7 (by omega)
        replace hDd1 := hDd1.sto hS1_7 (by omega)
        replace hA := hA.sto hS1_7 (by omega)
        replace hB := hB.sto hS1_7 (by omega)
        replace hB2 := hB2.sto hS1_7 (by omega)
        replace hB3 := hB3.sto hS1_7 (by omega)
        replace hB4 := hB4.sto hS1_7 (by omega)
        replace hB5 := hB5.sto hS1_7 (by omega)
        replace hC11 := hC11.sto hS1_7 (by omega)
        replace hC13 := hC13.sto hS1_7 (by omega)
        replace hB6 : Blk w1_7 _ _ [_, _, _] := hS1_7.blk
        refine ⟨by omega, fun _ hx => ⟨hDd1.lo hx (by omega), trivial⟩, ?_⟩
        have hDd1 := (Lo.refl (by omega) : Lo w4.heap.size w1_7 w1_7)
        exact PT_nil 6 ⟨hB5.num, hB6.num⟩ rfl ⟨rfl, rfl, trivial⟩ rfl ⟨_, _, b11, p11, v11, h11, _, _, b13, p13, v13, h13, ⟨(by (try dsimp only [Blk.num]); omega), (by (try dsimp only [Blk.num]); omega), (by (try dsimp only [Blk.num]); omega), (by (try dsimp only [Blk.num]); omega), (by (try dsimp only [Blk.num]); omega), (by (try dsimp only [Blk.num]); omega), (by (try dsimp only [Blk.num]); omega), (by (try dsimp only [Blk.num]); omega), (by (try dsimp only [Blk.num]); omega), (by (try dsimp only [Blk.num]); omega), (by (try dsimp only [Blk.num]); omega), (by (try dsimp only [Blk.num]); omega)⟩, hB5, hB6, hC11, hC13, hT⟩
    · refine PA_m w4.heap.size rfl rfl (ev_alloc zr31) ?_
      rintro _ w6 ⟨rfl, hN6⟩
      have hz6 := hN6.size
      replace hE := hE.trans hN6.ext
      replace hT := hT.trans hN6.ext
      replace hDd1 := hDd1.trans hN6.ext
      replace hA := hA.ext hN6.ext
      replace hB := hB.ext hN6.ext
      replace hB2 := hB2.ext hN6.ext
      replace hB3 := hB3.ext hN6.ext
      replace hB4 := hB4.ext hN6.ext
      have hB6 : Blk w6 _ _ [_, _, _] := hN6.blk
      refine ⟨by omega, fun _ hx => ⟨hDd1.lo hx (by omega), trivial⟩, ?_⟩
      have hDd1 := (Lo.refl (by omega) : Lo w4.heap.size w6 w6)
      refine PT_b ?_ ?_
      · refine PA_m w4.heap.size rfl rfl (ev_call rfl (copyNetwork_spec _ A _ hA (by omega) (by omega))) ?_
        rintro _ w11 ⟨b11, p11, v11, h11, rfl, hC11, hE11⟩
        have hz11 := hE11.size
        replace hE := hE.trans hE11
        replace hT := hT.trans hE11
        replace hDd1 := hDd1.trans hE11
        replace hA := hA.ext hE11
        replace hB := hB.ext hE11
        replace hB2 := hB2.ext hE11
        replace hB3 := hB3.ext hE11
        replace hB4 := hB4.ext hE11
        replace hB6 := hB6.ext hE11
        have hp11 := hC11.pos
        refine ⟨by omega, fun _ hx => ⟨hDd1.lo hx (by omega), trivial⟩, ?_⟩
        have hDd1 := (Lo.refl (by omega) : Lo w4.heap.size w11 w11)
        refine PT_b ?_ ?_
        · refine PA_m w4.heap.size rfl rfl (ev_call rfl (copyNetwork_spec _ B _ hB (by omega) (by omega))) ?_
          rintro _ w13 ⟨b13, p13, v13, h13, rfl, hC13, hE13⟩
          have hz13 := hE13.size
          replace hE := hE.trans hE13
          replace hT := hT.trans hE13
          replace hDd1 := hDd1.trans hE13
          replace hA := hA.ext hE13
          replace hB := hB.ext hE13
          replace hB2 := hB2.ext hE13
          replace hB3 := hB3.ext hE13
          replace hB4 := hB4.ext hE13
          replace hB6 := hB6.ext hE13
          replace hC11 := hC11.ext hE13
          have hp13 := hC13.pos
          refine ⟨by omega, fun _ hx => ⟨hDd1.lo hx (by omega), trivial⟩, ?_⟩
          have hDd1 := (Lo.refl (by omega) : Lo w4.heap.size w13 w13)
          refine PT_a ?_
          refine PA_m w4.heap.size rfl rfl (ev_alloc zr31) ?_
          rintro _ w5 ⟨rfl, hN5⟩
          have hz5 := hN5.size
          replace hE := hE.trans hN5.ext
          replace hT := hT.trans hN5.ext
          replace hDd1 := hDd1.trans hN5.ext
          replace hA := hA.ext hN5.ext
          replace hB := hB.ext hN5.ext
          replace hB2 := hB2.ext hN5.ext
          replace hB3 := hB3.ext hN5.ext
          replace hB4 := hB4.ext hN5.ext
          replace hB6 := hB6.ext hN5.ext
          replace hC11 := hC11.ext hN5.ext
          replace hC13 := hC13.ext hN5.ext
          have hB5 : Blk w5 _ _ [_, _, _] := hN5.blk
          refine ⟨by omega, fun _ hx => ⟨hDd1.lo hx (by omega), trivial⟩, ?_⟩
          have hDd1 := (Lo.refl (by omega) : Lo w4.heap.size w5 w5)
          refine PT_a ?_
          refine PA_s w4.heap.size rfl (ev_stores sz31 rfl rfl rfl (by simp [Value.oneCell']) hB5 (by simp)) ?_
          rintro _ w1_6 hS1_6
          have hz1_6 := hS1_6.size
          replace hE := hE.sto hS1_6 (by omega)
          replace hT := hT.sto hS1_6 (by omega)
          replace hDd1 := hDd1.sto hS1_6 (by omega)
          replace hA := hA.sto hS1_6 (by omega)
          replace hB := hB.sto hS1_6 (by omega)
          replace hB2 := hB2.sto hS1_6 (by omega)
          replace hB3 := hB3.sto hS1_6 (by omega)
          replace hB4 := hB4.sto hS1_6 (by omega)
          replace hB6 := hB6.sto hS1_6 (by omega)
          replace hC11 := hC11.sto hS1_6 (by omega)
          replace hC13 := hC13.sto hS1_6 (by omega)
          replace hB5 : Blk w1_6 _ _ [_, _, _] := hS1_6.blk
          refine ⟨by omega, fun _ hx => ⟨hDd1.lo hx (by omega), trivial⟩, ?_⟩
          have hDd1 := (Lo.refl (by omega) : Lo w4.heap.size w1_6 w1_6)
          refine PT_a ?_
          refine PA_s w4.heap.size rfl (ev_stores sz31 rfl rfl rfl (by simp [Value.oneCell']) hB6 (by simp)) ?_
          rintro _ w1_7 hS1_7
          have hz1_7 := hS1_7.size
          replace hE := hE.sto hS1_7 (by omega)
          replace hT := hT.sto hS1_7 (by omega)
          replace hDd1 := hDd1.sto hS1_7 (by omega)
          replace hA := hA.sto hS1_7 (by omega)
          replace hB := hB.sto hS1_7 (by omega)
          replace hB2 := hB2.sto hS1_7 (by omega)
          replace hB3 := hB3.sto hS1_7 (by omega)
          replace hB4 := hB4.sto hS1_7 (by omega)
          replace hC11 := hC11.sto hS1_7 (by omega)
          replace hC13 := hC13.sto hS1_7 (by omega)
          replace hB5 := hB5.sto hS1_7 (by omega)
          replace hB6 : Blk w1_7 _ _ [_, _, _] := hS1_7.blk
          refine ⟨by omega, fun _ hx => ⟨hDd1.lo hx (by omega), trivial⟩, ?_⟩
          have hDd1 := (Lo.refl (by omega) : Lo w4.heap.size w1_7 w1_7)
          exact PT_nil 6 ⟨hB5.num, hB6.num⟩ rfl ⟨rfl, rfl, trivial⟩ rfl ⟨_, _, b11, p11, v11, h11, _, _, b13, p13, v13, h13, ⟨(by (try dsimp only [Blk.num]); omega), (by (try dsimp only [Blk.num]); omega), (by (try dsimp only [Blk.num]); omega), (by (try dsimp only [Blk.num]); omega), (by (try dsimp only [Blk.num]); omega), (by (try dsimp only [Blk.num]); omega), (by (try dsimp only [Blk.num]); omega), (by (try dsimp only [Blk.num]); omega), (by (try dsimp only [Blk.num]); omega), (by (try dsimp only [Blk.num]); omega), (by (try dsimp only [Blk.num]); omega), (by (try dsimp only [Blk.num]); omega)⟩, hB5, hB6, hC11, hC13, hT⟩
        · refine PA_m w4.heap.size rfl rfl (ev_alloc zr31) ?_
          rintro _ w5 ⟨rfl, hN5⟩
          have hz5 := hN5.size
          replace hE := hE.trans hN5.ext
          replace hT := hT.trans hN5.ext
          replace hDd1 := hDd1.trans hN5.ext
          replace hA := hA.ext hN5.ext
          replace hB := hB.ext hN5.ext
          replace hB2 := hB2.ext hN5.ext
          replace hB3 := hB3.ext hN5.ext
          replace hB4 := hB4.ext hN5.ext
          replace hB6 := hB6.ext hN5.ext
          replace hC11 := hC11.ext hN5.ext
          have hB5 : Blk w5 _ _ [_, _, _] := hN5.blk
          refine ⟨by omega, fun _ hx => ⟨hDd1.lo hx (by omega), trivial⟩, ?_⟩
          have hDd1 := (Lo.refl (by omega) : Lo w4.heap.size w5 w5)
          refine PT_a ?_
          refine PA_m w4.heap.size rfl rfl (ev_call rfl (copyNetwork_spec _ B _ hB (by omega) (by omega))) ?_
          rintro _ w13 ⟨b13, p13, v13, h13, rfl, hC13, hE13⟩
          have hz13 := hE13.size
          replace hE := hE.trans hE13
          replace hT := hT.trans hE13
          replace hDd1 := hDd1.trans hE13
          replace hA := hA.ext hE13
          replace hB := hB.ext hE13
          replace hB2 := hB2.ext hE13
          replace hB3 := hB3.ext hE13
          replace hB4 := hB4.ext hE13
          replace hB6 := hB6.ext hE13
          replace hC11 := hC11.ext hE13
          replace hB5 := hB5.ext hE13
          have hp13 := hC13.pos
          refine ⟨by omega, fun _ hx => ⟨hDd1.lo hx (by omega), trivial⟩, ?_⟩
          have hDd1 := (Lo.refl (by omega) : Lo w4.heap.size w13 w13)
          refine PT_a ?_
          refine PA_s w4.heap.size rfl (ev_stores sz31 rfl rfl rfl (by simp [Value.oneCell']) hB5 (by simp)) ?_
          rintro _ w1_6 hS1_6
          have hz1_6 := hS1_6.size
          replace hE := hE.sto hS1_6 (by omega)
          replace hT := hT.sto hS1_6 (by omega)
          replace hDd1 := hDd1.sto hS1_6 (by omega)
          replace hA := hA.sto hS1_6 (by omega)
          replace hB := hB.sto hS1_6 (by omega)
          replace hB2 := hB2.sto hS1_6 (by omega)
          replace hB3 := hB3.sto hS1_6 (by omega)
          replace hB4 := hB4.sto hS1_6 (by omega)
          replace hB6 := hB6.sto hS1_6 (by omega)
          replace hC11 := hC11.sto hS1_6 (by omega)
          replace hC13 := hC13.sto hS1_6 (by omega)
          replace hB5 : Blk w1_6 _ _ [_, _, _] := hS1_6.blk
          refine ⟨by omega, fun _ hx => ⟨hDd1.lo hx (by omega), trivial⟩, ?_⟩
          have hDd1 := (Lo.refl (by omega) : Lo w4.heap.size w1_6 w1_6)
          refine PT_a ?_
          refine PA_s w4.heap.size rfl (ev_stores sz31 rfl rfl rfl (by simp [Value.oneCell']) hB6 (by simp)) ?_
          rintro _ w1_7 hS1_7
          have hz1_7 := hS1_7.size
          replace hE := hE.sto hS1_7 (by omega)
          replace hT := hT.sto hS1_7 (by omega)
          replace hDd1 := hDd1.sto hS1_7 (by omega)
          replace hA := hA.sto hS1_7 (by omega)
          replace hB := hB.sto hS1_7 (by omega)
          replace hB2 := hB2.sto hS1_7 (by omega)
          replace hB3 := hB3.sto hS1_7 (by omega)
          replace hB4 := hB4.sto hS1_7 (by omega)
          replace hC11 := hC11.sto hS1_7 (by omega)
          replace hB5 := hB5.sto hS1_7 (by omega)
          replace hC13 := hC13.sto hS1_7 (by omega)
          replace hB6 : Blk w1_7 _ _ [_, _, _] := hS1_7.blk
          refine ⟨by omega, fun _ hx => ⟨hDd1.lo hx (by omega), trivial⟩, ?_⟩
          have hDd1 := (Lo.refl (by omega) : Lo w4.heap.size w1_7 w1_7)
          exact PT_nil 6 ⟨hB5.num, hB6.num⟩ rfl ⟨rfl, rfl, trivial⟩ rfl ⟨_, _, b11, p11, v11, h11, _, _, b13, p13, v13, h13, ⟨(by (try dsimp only [Blk.num]); omega), (by (try dsimp only [Blk.num]); omega), (by (try dsimp only [Blk.num]); omega), (by (try dsimp only [Blk.num]); omega), (by (try dsimp only [Blk.num]); omega), (by (try dsimp only [Blk.num]); omega), (by (try dsimp only [Blk.num]); omega), (by (try dsimp only [Blk.num]); omega), (by (try dsimp only [Blk.num]); omega), (by (try dsimp only [Blk.num]); omega), (by (try dsimp only [Blk.num]); omega), (by (try dsimp only [Blk.num]); omega)⟩, hB5, hB6, hC11, hC13, hT⟩
      · refine PA_m w4.heap.size rfl rfl (ev_alloc zr31) ?_
        rintro _ w5 ⟨rfl, hN5⟩
        have hz5 := hN5.size
        replace hE := hE.trans hN5.ext
        replace hT := hT.trans hN5.ext
        replace hDd1 := hDd1.trans hN5.ext
        replace hA := hA.ext hN5.ext
        replace hB := hB.ext hN5.ext
        replace hB2 := hB2.ext hN5.ext
        replace hB3 := hB3.ext hN5.ext
        replace hB4 := hB4.ext hN5.ext
        replace hB6 := hB6.ext hN5.ext
        have hB5 : Blk w5 _ _ [_, _, _] := hN5.blk
        refine ⟨by omega, fun _ hx => ⟨hDd1.lo hx (by omega), trivial⟩, ?_⟩
        have hDd1 := (Lo.refl (by omega) : Lo w4.heap.size w5 w5)
        refine PT_a ?_
        refine PA_m w4.heap.size rfl rfl (ev_call rfl (copyNetwork_spec _ A _ hA (by omega) (by omega))) ?_
        rintro _ w11 ⟨b11, p11, v11, h11, rfl, hC11, hE11⟩
        have hz11 := hE11.size
        replace hE := hE.trans hE11
        replace hT := hT.trans hE11
        replace hDd1 := hDd1.trans hE11
        replace hA := hA.ext hE11
        replace hB := hB.ext hE11
        replace hB2 := hB2.ext hE11
        replace hB3 := hB3.ext hE11
        replace hB4 := hB4.ext hE11
        replace hB6 := hB6.ext hE11
        replace hB5 := hB5.ext hE11
        have hp11 := hC11.pos
        refine ⟨by omega, fun _ hx => ⟨hDd1.lo hx (by omega), trivial⟩, ?_⟩
        have hDd1 := (Lo.refl (by omega) : Lo w4.heap.size w11 w11)
        refine PT_a ?_
        refine PA_m w4.heap.size rfl rfl (ev_call rfl (copyNetwork_spec _ B _ hB (by omega) (by omega))) ?_
        rintro _ w13 ⟨b13, p13, v13, h13, rfl, hC13, hE13⟩
        have hz13 := hE13.size
        replace hE := hE.trans hE13
        replace hT := hT.trans hE13
        replace hDd1 := hDd1.trans hE13
        replace hA := hA.ext hE13
        replace hB := hB.ext hE13
        replace hB2 := hB2.ext hE13
        replace hB3 := hB3.ext hE13
        replace hB4 := hB4.ext hE13
        replace hB6 := hB6.ext hE13
        replace hB5 := hB5.ext hE13
        replace hC11 := hC11.ext hE13
        have hp13 := hC13.pos
        refine ⟨by omega, fun _ hx => ⟨hDd1.lo hx (by omega), trivial⟩, ?_⟩
        have hDd1 := (Lo.refl (by omega) : Lo w4.heap.size w13 w13)
        refine PT_a ?_
        refine PA_s w4.heap.size rfl (ev_stores sz31 rfl rfl rfl (by simp [Value.oneCell']) hB5 (by simp)) ?_
        rintro _ w1_6 hS1_6
        have hz1_6 := hS1_6.size
        replace hE := hE.sto hS1_6 (by omega)
        replace hT := hT.sto hS1_6 (by omega)
        replace hDd1 := hDd1.sto hS1_6 (by omega)
        replace hA := hA.sto hS1_6 (by omega)
        replace hB := hB.sto hS1_6 (by omega)
        replace hB2 := hB2.sto hS1_6 (by omega)
        replace hB3 := hB3.sto hS1_6 (by omega)
        replace hB4 := hB4.sto hS1_6 (by omega)
        replace hB6 := hB6.sto hS1_6 (by omega)
        replace hC11 := hC11.sto hS1_6 (by omega)
        replace hC13 := hC13.sto hS1_6 (by omega)
        replace hB5 : Blk w1_6 _ _ [_, _, _] := hS1_6.blk
        refine ⟨by omega, fun _ hx => ⟨hDd1.lo hx (by omega), trivial⟩, ?_⟩
        have hDd1 := (Lo.refl (by omega) : Lo w4.heap.size w1_6 w1_6)
        refine PT_a ?_
        refine PA_s w4.heap.size rfl (ev_stores sz31 rfl rfl rfl (by simp [Value.oneCell']) hB6 (by simp)) ?_
        rintro _ w1_7 hS1_7
        have hz1_7 := hS1_7.size
        replace hE := hE.sto hS1_7 (by omega)
        replace hT := hT.sto hS1_7 (by omega)
        replace hDd1 := hDd1.sto hS1_7 (by omega)
        replace hA := hA.sto hS1_7 (by omega)
        replace hB := hB.sto hS1_7 (by omega)
        replace hB2 := hB2.sto hS1_7 (by omega)
        replace hB3 := hB3.sto hS1_7 (by omega)
        replace hB4 := hB4.sto hS1_7 (by omega)
        replace hB5 := hB5.sto hS1_7 (by omega)
        replace hC11 := hC11.sto hS1_7 (by omega)
        replace hC13 := hC13.sto hS1_7 (by omega)
        replace hB6 : Blk w1_7 _ _ [_, _, _] := hS1_7.blk
        refine ⟨by omega, fun _ hx => ⟨hDd1.lo hx (by omega), trivial⟩, ?_⟩
        have hDd1 := (Lo.refl (by omega) : Lo w4.heap.size w1_7 w1_7)
        exact PT_nil 6 ⟨hB5.num, hB6.num⟩ rfl ⟨rfl, rfl, trivial⟩ rfl ⟨_, _, b11, p11, v11, h11, _, _, b13, p13, v13, h13, ⟨(by (try dsimp only [Blk.num]); omega), (by (try dsimp only [Blk.num]); omega), (by (try dsimp only [Blk.num]); omega), (by (try dsimp only [Blk.num]); omega), (by (try dsimp only [Blk.num]); omega), (by (try dsimp only [Blk.num]); omega), (by (try dsimp only [Blk.num]); omega), (by (try dsimp only [Blk.num]); omega), (by (try dsimp only [Blk.num]); omega), (by (try dsimp only [Blk.num]); omega), (by (try dsimp only [Blk.num]); omega), (by (try dsimp only [Blk.num]); omega)⟩, hB5, hB6, hC11, hC13, hT⟩
  rintro ⟨b5, b6⟩ wt1 ⟨l1, r1, b1, p1, v1, n1, l2, r2, b2, p2, v2, n2, ⟨hx1, hx2, hx3, hx4, hx5, hx6, hx7, hx8, hx9, hx10, hx11, hx12⟩, hB5, hB6, hC1, hC2, hT⟩
  dsimp only [List.cons_append, List.nil_append]
  dsimp only at hx4 hx5 hx6 hx7 hx8 hx9 hx10 hx11 hx12 hB5 hB6
  replace hE := hE.trans hT
  replace hA := hA.ext hT
  replace hB := hB.ext hT
  replace hB2 := hB2.ext hT
  replace hB3 := hB3.ext hT
  replace hB4 := hB4.ext hT
  have hpA := hC1.pos
  have hpB := hC2.pos
  obtain ⟨m1, hm1, hm1', hJ2, hJ3⟩ := hC1.nums
  obtain ⟨m2, hm2, hm2', hI2, hI3⟩ := hC2.nums
  have hAo := hC1.out
  have hPA := hC1.rows.prows
  have hBo := hC2.out
  have hOA := hC2.rows
  have hv1l := hC1.rows.len
  have hv2l := hC2.rows.len
  rw [hC1.adr.1, hC1.adr.2] at hB5
  rw [hC2.adr.1, hC2.adr.2] at hB6
  refine thenE_n ?_
  refine W_seq ?_
  refine W_seq ?_
  refine W_region ?_
  refine WL_q rfl (ev_fieldAddr fo31_0 rfl) ?_
  refine WL_q rfl (ev_load one29 rfl (hB6.cell rfl)) ?_
  refine WL_q rfl (ev_len Try.underlying29 rfl) ?_
  refine WL_q rfl (ev_move rfl) ?_
  refine WL_nil ?_
  refine thenE_n ?_
  refine W_block ?_
  refine W_loopC (G := Nat) [(2, _), (4, _), (5, _), (6, _), (15, _), (16, _)] ((Subs.c rfl (Subs.c rfl (Subs.c rfl (Subs.c rfl (Subs.c rfl (Subs.c rfl Subs.n))))))) (fun i => [(17, VI (i : Int))]) (fun i w' => Rg p2 r2 0 0 wt1 w' ∧ i ≤ B.ends.length ∧ OwnAll pairF 2 p2 r2 w' 74 v2 (shfN A.ends.length B.ends i)) (fun i => B.ends.length - i) 0 ((Subs.c (lkI rfl (by omega)) Subs.n)) (⟨Rg.refl, ⟨Nat.zero_le _, by rw [shfN_zero]; exact hOA⟩⟩) ?_
  rintro i wL0 ⟨hRL0, hi', hOA⟩
  have hzL0 := hRL0.size
  replace hA := hA.rg hRL0 (by omega)
  replace hB := hB.rg hRL0 (by omega)
  replace hB2 := hB2.rg hRL0 (by omega)
  replace hB3 := hB3.rg hRL0 (by omega)
  replace hB4 := hB4.rg hRL0 (by omega)
  replace hB5 := hB5.rg hRL0 (by omega)
  replace hB6 := hB6.rg hRL0 (by omega)
  replace hAo := hAo.rg hRL0 (by omega)
  replace hPA := hPA.rg hRL0 (by omega)
  replace hJ2 := hJ2.rg hRL0 (by omega)
  replace hJ3 := hJ3.rg hRL0 (by omega)
  replace hBo := hBo.rg hRL0 (by omega)
  replace hI2 := hI2.rg hRL0 (by omega)
  replace hI3 := hI3.rg hRL0 (by omega)
  replace hE := hE.rg hRL0 (by omega)
  refine W_seq ?_
  refine W_region ?_
  refine WL_q rfl (ev_lss rfl rfl) ?_
  refine WL_nil ?_
  refine thenE_n ?_
  refine W_seq ?_
  refine W_cond rfl (fun hg18 => ?_) (fun hg18 => ?_)
  · have hp18 := of_decide_eq_true hg18
    refine W_skip ?_
    refine thenE_n ?_
    refine W_seq ?_
    refine W_block ?_
    refine W_seq ?_
    refine W_region ?_
    have hlt : i < B.ends.length := by omega
    have hlv : i < v2.length := by omega
    have hsl := shfN_len A.ends.length B.ends i
    obtain ⟨a8, ha8⟩ : ∃ a, v2[i].1 = a := ⟨_, rfl⟩
    have e8 := rowv_at hlv hlt
    rw [ha8] at e8
    have h6B := hvB.degAt hlt
    refine WL_q rfl (ev_indexAddr Try.underlying29 sz72 rfl rfl rfl (by omega) (by omega)) ?_
    refine WL_q rfl (ev_load one72 rfl (hBo.cellAt e8 (by simp))) ?_
    refine WL_q rfl (ev_assign rfl) ?_
    refine WL_nil ?_
    refine thenE_n ?_
    refine W_seq ?_
    refine W_region ?_
    refine WL_q rfl (ev_move rfl) ?_
    refine WL_q rfl (ev_len Try.underlying72 rfl) ?_
    refine WL_q rfl (ev_move rfl) ?_
    refine WL_nil ?_
    refine thenE_n ?_
    refine W_block ?_
    refine W_loopC (G := Nat) [(2, _), (4, _), (5, _), (6, _), (8, _), (15, _), (16, _), (17, _), (22, _)] ((Subs.c rfl (Subs.c rfl (Subs.c rfl (Subs.c rfl (Subs.c rfl (Subs.c rfl (Subs.c rfl (Subs.c rfl (Subs.c rfl Subs.n)))))))))) (fun k => [(23, VI (k : Int))]) (fun k w' => Rg p2 r2 0 0 wL0 w' ∧ k ≤ B.ends[i].length ∧ OwnAll pairF 2 p2 r2 w' 74 v2 ((shfN A.ends.length B.ends i).set i (shfR A.ends.length B.ends[i] k))) (fun k => B.ends[i].length - k) 0 ((Subs.c (lkI rfl (by omega)) Subs.n)) (⟨Rg.refl, ⟨Nat.zero_le _, by rw [shfN_set0 hlt]; exact hOA⟩⟩) ?_
    rintro k wL2 ⟨hRL2, hk', hOA⟩
    have hzL2 := hRL2.size
    replace hA := hA.rg hRL2 (by omega)
    replace hB := hB.rg hRL2 (by omega)
    replace hB2 := hB2.rg hRL2 (by omega)
    replace hB3 := hB3.rg hRL2 (by omega)
    replace hB4 := hB4.rg hRL2 (by omega)
    replace hB5 := hB5.rg hRL2 (by omega)
    replace hB6 := hB6.rg hRL2 (by omega)
    replace hAo := hAo.rg hRL2 (by omega)
    replace hPA := hPA.rg hRL2 (by omega)
    replace hJ2 := hJ2.rg hRL2 (by omega)
    replace hJ3 := hJ3.rg hRL2 (by omega)
    replace hBo := hBo.rg hRL2 (by omega)
    replace hI2 := hI2.rg hRL2 (by omega)
    replace hI3 := hI3.rg hRL2 (by omega)
    replace hE := hE.rg hRL2 (by omega)
    replace hRL0 := hRL0.rg hRL2 (by omega)
    refine W_seq ?_
    refine W_region ?_
    refine WL_q rfl (ev_lss rfl rfl) ?_
    refine WL_nil ?_
    refine thenE_n ?_
    refine W_seq ?_
    refine W_cond rfl (fun hg24 => ?_) (fun hg24 => ?_)
    · have hp24 := of_decide_eq_true hg24
      refine W_skip ?_
      refine thenE_n ?_
      refine W_seq ?_
      refine W_block ?_
      refine W_seq ?_
      refine W_region ?_
      have hlk : k < B.ends[i].length := by omega
      have hrl := shfR_len A.ends.length B.ends[i] k
      obtain ⟨g8, rest8, hg8, hgl, hgr, hB8, hgc⟩ := hOA.openR hlv (by omega) (by omega)
      have e9 : a8 = some ⟨g8, 0, none⟩ := ha8.symm.trans hg8
      subst e9
      have hcl8 : (pairCells (shfR A.ends.length B.ends[i] k) ++ rest8).length = v2[i].2 * 2 := hgc.2.2
      have hgc1 := hgc.1
      have hpl8 := pairCells_length (shfR A.ends.length B.ends[i] k)
      have hrng := hvB.ends _ (List.getElem_mem hlt) _ (List.getElem_mem hlk)
      refine WL_q rfl (ev_move rfl) ?_
      refine WL_q rfl (ev_assign rfl) ?_
      refine WL_nil ?_
      refine thenE_n ?_
      refine W_drawZ 11 w2.heap.size w2.heap.size 0 0 (fun w' => True) [(0, true), (1, true), (2, true), (3, true), (4, true), (5, true), (6, true), (7, true), (8, true), (9, false), (10, true), (11, false)] mixed (by kernel_rfl) rfl (by kernel_rfl) (fun _ _ => trivial) ?_
      intro wd8 hEd8 hzd8
      replace hE := hE.trans hEd8
      replace hRL0 := hRL0.trans hEd8
      replace hRL2 := hRL2.trans hEd8
      replace hA := hA.ext hEd8
      replace hB := hB.ext hEd8
      replace hB2 := hB2.ext hEd8
      replace hB3 := hB3.ext hEd8
      replace hB4 := hB4.ext hEd8
      replace hB5 := hB5.ext hEd8
      replace hB6 := hB6.ext hEd8
      replace hAo := hAo.ext hEd8
      replace hPA := hPA.ext hEd8
      replace hJ2 := hJ2.ext hEd8
      replace hJ3 := hJ3.ext hEd8
      replace hBo := hBo.ext hEd8
      replace hI2 := hI2.ext hEd8
      replace hI3 := hI3.ext hEd8
      replace hOA := hOA.ext hEd8
      replace hB8 := hB8.ext hEd8
      have hDd8 := (Rg.refl : Rg w2.heap.size w2.heap.size 0 0 wd8 wd8)
      refine PZ_q rfl rfl rfl (fun wq hq => ev_move rfl) ?_
      refine PZ_q rfl rfl rfl (fun wq hq => ev_move rfl) ?_
      refine PZ_q rfl rfl rfl (fun wq hq => ev_indexAddr Try.underlying72 sz74 rfl rfl rfl (by omega) (by omega)) ?_
      refine PZ_q rfl rfl rfl (fun wq hq => ev_fieldAddr fo74_0 rfl) ?_
      refine PZ_q rfl rfl rfl (fun wq hq => ev_load one3 rfl (hq.1.cell' (hB8.cellAt (shf_cell hlk) (by simp)) (by omega))) ?_
      refine PZ_q rfl rfl rfl (fun wq hq => ev_fieldAddr fo31_0 rfl) ?_
      refine PZ_q rfl rfl rfl (fun wq hq => ev_load one29 rfl ((hB2.rg hq.1 (by omega)).cell rfl)) ?_
      refine PZ_q rfl rfl rfl (fun wq hq => ev_len Try.underlying29 rfl) ?_
      refine PZ_q rfl rfl rfl (fun wq hq => ev_add rfl rfl (by omega)) ?_
      refine PZ_m rfl rfl rfl (EvR.m (ev_indexAddr Try.underlying72 sz74 rfl rfl rfl (by omega) (by omega))) ?_
      rintro _ _ ⟨rfl, rfl⟩
      refine ⟨⟨hDd8, trivial⟩, ?_⟩
      refine PZ_q rfl rfl rfl (fun wq hq => ev_fieldAddr fo74_0 rfl) ?_
      have hOA0 := hOA
      refine PZ_z rfl (ev_store sz3 rfl rfl rfl hB8 (by simp only [List.length_append] at hcl8 ⊢; simp; omega)) ?_
      rintro _ w8_11 hS8_11
      have hz8_11 := hS8_11.size
      replace hE := hE.sto hS8_11 (by omega)
      replace hRL0 := hRL0.sto hS8_11 (by omega)
      replace hRL2 := hRL2.sto hS8_11 (by omega)
      replace hA := hA.sto hS8_11 (by omega)
      replace hB := hB.sto hS8_11 (by omega)
      replace hB2 := hB2.sto hS8_11 (by omega)
      replace hB3 := hB3.sto hS8_11 (by omega)
      replace hB4 := hB4.sto hS8_11 (by omega)
      replace hB5 := hB5.sto hS8_11 (by omega)
      replace hB6 := hB6.sto hS8_11 (by omega)
      replace hAo := hAo.sto hS8_11 (by omega)
      replace hPA := hPA.sto hS8_11 (by omega)
      replace hJ2 := hJ2.sto hS8_11 (by omega)
      replace hJ3 := hJ3.sto hS8_11 (by omega)
      replace hBo := hBo.sto hS8_11 (by omega)
      replace hI2 := hI2.sto hS8_11 (by omega)
      replace hI3 := hI3.sto hS8_11 (by omega)
      replace hB8 := hS8_11.blk
      replace hB8 := shf_store hB8 (by simp) hlk rfl
      have hOA2 := hOA0.closeR hlv (by omega) hS8_11 hg8 hgl hB8 (by rw [shfR_len, shfR_len]) hgc
      refine PW_nil ?_
      refine blockE_n ?_
      refine thenE_n ?_
      refine W_region ?_
      refine WL_q rfl (ev_add rfl rfl (by omega)) ?_
      refine WL_q rfl (ev_move rfl) ?_
      refine WL_nil ?_
      refine thenE_n ?_
      exact ⟨k + 1, (Subs.c rfl (Subs.c rfl (Subs.c rfl (Subs.c rfl (Subs.c rfl (Subs.c rfl (Subs.c rfl (Subs.c rfl (Subs.c rfl Subs.n))))))))), (Subs.c (lkI rfl (by omega)) Subs.n), ⟨hRL2, ⟨by omega, hOA2⟩⟩, by first | omega | (dsimp only; omega)⟩
    · have hp24 := of_decide_eq_false hg24
      refine W_exit ?_
      refine thenE_x ?_
      refine thenE_x ?_
      refine blockE_hit ?_
      refine blockE_n ?_
      refine thenE_n ?_
      refine W_region ?_
      refine WL_q rfl (ev_add rfl rfl (by omega)) ?_
      refine WL_q rfl (ev_move rfl) ?_
      refine WL_nil ?_
      refine thenE_n ?_
      exact ⟨i + 1, (Subs.c rfl (Subs.c rfl (Subs.c rfl (Subs.c rfl (Subs.c rfl (Subs.c rfl Subs.n)))))), (Subs.c (lkI rfl (by omega)) Subs.n), ⟨hRL0, ⟨by omega, by rw [← shfN_next hlt (k := k) (by omega)]; exact hOA⟩⟩, by first | omega | (dsimp only; omega)⟩
  · have hp18 := of_decide_eq_false hg18
    refine W_exit ?_
    refine thenE_x ?_
    refine thenE_x ?_
    refine blockE_hit ?_
    refine thenE_n ?_
    refine W_seq ?_
    refine W_region ?_
    have hPB := hOA.prows
    rw [shfN_full (by omega)] at hPB
    have hOo : OwnH b1 (b1 + 1) 0 0 wL0 72 1 (some ⟨b1, 0, none⟩) A.ends.length A.ends.length ((v1.zip A.ends).map fun p => rowVal p.1 p.2) := ⟨Own.of_front (rest := []) (by rw [List.append_nil]; exact hAo) (Nat.le_refl _) (Nat.le_refl _) (by unfold maxLen; omega) (by simp [hv1l]) (by simp [hv1l]), fun x hx => by cases hx; exact ⟨Nat.lt_succ_self b1, .inr (Nat.zero_le _)⟩⟩
    refine WL_q rfl (ev_fieldAddr fo31_0 rfl) ?_
    refine WL_q rfl (ev_load one29 rfl (hB5.cell rfl)) ?_
    refine WL_q rfl (ev_fieldAddr fo31_0 rfl) ?_
    refine WL_q rfl (ev_load one29 rfl (hB6.cell rfl)) ?_
    refine WL_m rfl (ev_appendT Try.underlying29 el72 rfl (by decide) rfl rfl hOo (SAt.of_blk (cs := ((v2.zip B.ends).map fun p => rowVal p.1 p.2)) (ds := []) (by rw [List.append_nil]; exact hBo)) (by simp [hv2l]) (rowv_one _ _) (by omega) (by unfold maxLen; omega) (by omega)) ?_
    rintro _ w43 ⟨a43, c43, rfl, hO43, hK43, hQ43⟩
    have hz43 := hK43.size
    replace hE := hE.rg hK43 (by omega)
    replace hA := hA.rg hK43 (by omega)
    replace hB := hB.rg hK43 (by omega)
    replace hB2 := hB2.rg hK43 (by omega)
    replace hB3 := hB3.rg hK43 (by omega)
    replace hB4 := hB4.rg hK43 (by omega)
    replace hB5 := hB5.rg hK43 (by omega)
    replace hB6 := hB6.rg hK43 (by omega)
    replace hPA := hPA.rg hK43 (by omega)
    replace hJ2 := hJ2.rg hK43 (by omega)
    replace hJ3 := hJ3.rg hK43 (by omega)
    replace hBo := hBo.rg hK43 (by omega)
    replace hI2 := hI2.rg hK43 (by omega)
    replace hI3 := hI3.rg hK43 (by omega)
    replace hPB := hPB.rg hK43 (by omega)
    replace hOo := hO43
    replace hOo := hOo.rehole hQ43 (fun z hz => by cases hz; exact Nat.lt_succ_self b1)
    refine WL_q rfl (ev_fieldAddr fo31_0 rfl) ?_
    refine WL_s (ev_store sz29 rfl rfl rfl hB5 (by simp)) ?_
    rintro _ w11_6 hS11_6
    have hz11_6 := hS11_6.size
    replace hE := hE.sto hS11_6 (by omega)
    replace hA := hA.sto hS11_6 (by omega)
    replace hB := hB.sto hS11_6 (by omega)
    replace hB2 := hB2.sto hS11_6 (by omega)
    replace hB3 := hB3.sto hS11_6 (by omega)
    replace hB4 := hB4.sto hS11_6 (by omega)
    replace hB6 := hB6.sto hS11_6 (by omega)
    replace hPA := hPA.sto hS11_6 (by omega)
    replace hJ2 := hJ2.sto hS11_6 (by omega)
    replace hJ3 := hJ3.sto hS11_6 (by omega)
    replace hBo := hBo.sto hS11_6 (by omega)
    replace hI2 := hI2.sto hS11_6 (by omega)
    replace hI3 := hI3.sto hS11_6 (by omega)
    replace hPB := hPB.sto hS11_6 (by omega)
    replace hOo := hOo.sto hS11_6 (by omega)
    replace hB5 : Blk w11_6 _ _ [_, _, _] := hS11_6.blk
    refine WL_nil ?_
    refine thenE_n ?_
    refine W_seq ?_
    refine W_region ?_
    refine WL_q rfl (ev_fieldAddr fo31_1 rfl) ?_
    refine WL_q rfl (ev_load one23 rfl (hB5.cell rfl)) ?_
    refine WL_q rfl (ev_fieldAddr fo31_1 rfl) ?_
    refine WL_q rfl (ev_load one23 rfl (hB6.cell rfl)) ?_
    have hJ2o := hJ2.2
    refine WL_m rfl (ev_appendT Try.underlying23 el3 rfl (by decide) rfl rfl hJ2 hI2.sat' (by simp) (ints_one _) (by omega) (by unfold maxLen; omega) (by omega)) ?_
    rintro _ w49 ⟨a49, c49, rfl, hO49, hK49, hQ49⟩
    have hz49 := hK49.size
    replace hE := hE.rg hK49 (by omega)
    replace hA := hA.rg hK49 (by omega)
    replace hB := hB.rg hK49 (by omega)
    replace hB2 := hB2.rg hK49 (by omega)
    replace hB3 := hB3.rg hK49 (by omega)
    replace hB4 := hB4.rg hK49 (by omega)
    replace hB5 := hB5.rg hK49 (by omega)
    replace hB6 := hB6.rg hK49 (by omega)
    replace hPA := hPA.rg hK49 (by omega)
    replace hJ3 := hJ3.rg hK49 (by omega)
    replace hBo := hBo.rg hK49 (by omega)
    replace hI2 := hI2.rg hK49 (by omega)
    replace hI3 := hI3.rg hK49 (by omega)
    replace hPB := hPB.rg hK49 (by omega)
    replace hOo := hOo.rg hK49 (by omega)
    replace hJ2 := hO49
    replace hJ2 := (ownt_appI hJ2).rehole hQ49 (fun z hz => (hJ2o z hz).1)
    refine WL_q rfl (ev_fieldAddr fo31_1 rfl) ?_
    refine WL_s (ev_store sz23 rfl rfl rfl hB5 (by simp)) ?_
    rintro _ w12_6 hS12_6
    have hz12_6 := hS12_6.size
    replace hE := hE.sto hS12_6 (by omega)
    replace hA := hA.sto hS12_6 (by omega)
    replace hB := hB.sto hS12_6 (by omega)
    replace hB2 := hB2.sto hS12_6 (by omega)
    replace hB3 := hB3.sto hS12_6 (by omega)
    replace hB4 := hB4.sto hS12_6 (by omega)
    replace hB6 := hB6.sto hS12_6 (by omega)
    replace hPA := hPA.sto hS12_6 (by omega)
    replace hJ2 := hJ2.sto hS12_6 (by omega)
    replace hJ3 := hJ3.sto hS12_6 (by omega)
    replace hBo := hBo.sto hS12_6 (by omega)
    replace hI2 := hI2.sto hS12_6 (by omega)
    replace hI3 := hI3.sto hS12_6 (by omega)
    replace hPB := hPB.sto hS12_6 (by omega)
    replace hOo := hOo.sto hS12_6 (by omega)
    replace hB5 : Blk w12_6 _ _ [_, _, _] := hS12_6.blk
    refine WL_nil ?_
    refine thenE_n ?_
    refine W_seq ?_
    refine W_region ?_
    refine WL_q rfl (ev_fieldAddr fo31_2 rfl) ?_
    refine WL_q rfl (ev_load one23 rfl (hB5.cell rfl)) ?_
    refine WL_q rfl (ev_fieldAddr fo31_2 rfl) ?_
    refine WL_q rfl (ev_load one23 rfl (hB6.cell rfl)) ?_
    have hJ3o := hJ3.2
    refine WL_m rfl (ev_appendT Try.underlying23 el3 rfl (by decide) rfl rfl hJ3 hI3.sat' (by simp) (ints_one _) (by omega) (by unfold maxLen; omega) (by omega)) ?_
    rintro _ w55 ⟨a55, c55, rfl, hO55, hK55, hQ55⟩
    have hz55 := hK55.size
    replace hE := hE.rg hK55 (by omega)
    replace hA := hA.rg hK55 (by omega)
    replace hB := hB.rg hK55 (by omega)
    replace hB2 := hB2.rg hK55 (by omega)
    replace hB3 := hB3.rg hK55 (by omega)
    replace hB4 := hB4.rg hK55 (by omega)
    replace hB5 := hB5.rg hK55 (by omega)
    replace hB6 := hB6.rg hK55 (by omega)
    replace hPA := hPA.rg hK55 (by omega)
    replace hJ2 := hJ2.rg hK55 (by omega)
    replace hBo := hBo.rg hK55 (by omega)
    replace hI2 := hI2.rg hK55 (by omega)
    replace hI3 := hI3.rg hK55 (by omega)
    replace hPB := hPB.rg hK55 (by omega)
    replace hOo := hOo.rg hK55 (by omega)
    replace hJ3 := hO55
    replace hJ3 := (ownt_appI hJ3).rehole hQ55 (fun z hz => (hJ3o z hz).1)
    refine WL_q rfl (ev_fieldAddr fo31_2 rfl) ?_
    refine WL_s (ev_store sz23 rfl rfl rfl hB5 (by simp)) ?_
    rintro _ w13_6 hS13_6
    have hz13_6 := hS13_6.size
    replace hE := hE.sto hS13_6 (by omega)
    replace hA := hA.sto hS13_6 (by omega)
    replace hB := hB.sto hS13_6 (by omega)
    replace hB2 := hB2.sto hS13_6 (by omega)
    replace hB3 := hB3.sto hS13_6 (by omega)
    replace hB4 := hB4.sto hS13_6 (by omega)
    replace hB6 := hB6.sto hS13_6 (by omega)
    replace hPA := hPA.sto hS13_6 (by omega)
    replace hJ2 := hJ2.sto hS13_6 (by omega)
    replace hJ3 := hJ3.sto hS13_6 (by omega)
    replace hBo := hBo.sto hS13_6 (by omega)
    replace hI2 := hI2.sto hS13_6 (by omega)
    replace hI3 := hI3.sto hS13_6 (by omega)
    replace hPB := hPB.sto hS13_6 (by omega)
    replace hOo := hOo.sto hS13_6 (by omega)
    replace hB5 : Blk w13_6 _ _ [_, _, _] := hS13_6.blk
    refine WL_nil ?_
    refine thenE_n ?_
    refine W_seq ?_
    refine W_region ?_
    refine WL_q rfl (ev_loads st31 sz31 rfl (cellsB hB5) rfl) ?_
    refine WL_s (ev_stores sz31 rfl rfl rfl (by simp [Value.oneCell']) hB4 (by simp)) ?_
    rintro _ w14_1 hS14_1
    have hz14_1 := hS14_1.size
    replace hE := hE.sto hS14_1 (by omega)
    replace hA := hA.sto hS14_1 (by omega)
    replace hB := hB.sto hS14_1 (by omega)
    replace hB2 := hB2.sto hS14_1 (by omega)
    replace hB3 := hB3.sto hS14_1 (by omega)
    replace hB5 := hB5.sto hS14_1 (by omega)
    replace hB6 := hB6.sto hS14_1 (by omega)
    replace hPA := hPA.sto hS14_1 (by omega)
    replace hJ2 := hJ2.sto hS14_1 (by omega)
    replace hJ3 := hJ3.sto hS14_1 (by omega)
    replace hBo := hBo.sto hS14_1 (by omega)
    replace hI2 := hI2.sto hS14_1 (by omega)
    replace hI3 := hI3.sto hS14_1 (by omega)
    replace hPB := hPB.sto hS14_1 (by omega)
    replace hOo := hOo.sto hS14_1 (by omega)
    replace hB4 : Blk w14_1 _ _ [_, _, _] := hS14_1.blk
    refine WL_nil ?_
    refine thenE_n ?_
    refine W_ret ?_
    refine retc rfl rfl st31 sz31 (cellsB hB4) rfl ?_
    exact ⟨⟨a43, c43, a49, c49, a55, c55⟩, (uni_val ⟨a43, c43, a49, c49, a55, c55⟩ A B).symm, uni_net (hPA.mono (by omega) (by omega)) (hPB.mono (by omega) (by omega)) hOo ⟨by omega, by omega⟩ hJ2 ⟨by omega, by omega⟩ hJ3 ⟨by omega, by omega⟩, hE⟩

theorem totL_bd {α : Type} {xss : List (List α)} {B : Nat} (h : ∀ r ∈ xss, r.length ≤ B) : totL xss ≤ xss.length * (B + 1) := by
  unfold totL
  induction xss with
  | nil => simp
  | cons x r ih =>
    have h1 := ih fun y hy => h y (List.mem_cons_of_mem _ hy)
    have h2 := h x (List.mem_cons_self ..)
    simp only [List.length_cons, List.map_cons, List.sum_cons, Nat.add_mul, Nat.one_mul] at h1 ⊢
    omega
theorem NOk.idl {A : Net} (h : NOk A) : A.ids.length ≤ 40 := by
  have h1 := h.ids; have h2 := h.nodes
  rcases h1 with h1 | h1
  · omega
  · have := h1.1; omega
theorem uni_tot {A B : Net} (hA : NOk A) (hB : NOk B) : totN (uni A B) ≤ 1048576 := by
  have h := uni_vok hA hB
  have h1 := totL_bd h.deg
  have h2 := h.pos
  have h3 := h.inp
  have h4 := hA.idl
  have h5 := hB.idl
  have h6 : (uni A B).ids.length = A.ids.length + B.ids.length := by simp [uni]
  unfold totN
  omega

theorem own_zaddH {l r p q : Nat} {w : World} {E : TypeId} {sz : Nat} {a : Option Addr} {n c : Nat} {ds : List Value} (h : OwnH l r p q w E sz a (0 + n) c (([] : List Value) ++ ds)) : OwnH l r p q w E sz a n c ds := ⟨own_zadd2 h.1, h.2⟩
theorem OwnH.app {l r p q lo' sz' n' c' : Nat} {w w' : World} {E E' : TypeId} {sz n c : Nat} {a a' : Option Addr} {cs ds : List Value} (h : OwnH l r p q w E sz a n c cs) (k : Apd w w' a') (o : Own lo' w E' sz' a' n' c' ds) (hb : r ≤ lo') : OwnH l r p q w' E sz a n c cs :=
  ⟨h.1.keep k fun x hx => ⟨(h.1.block x hx).2, fun y hy => by have := (h.2 x hx).1; have := (o.block y hy).1; omega⟩, h.2⟩

set_option maxHeartbeats 4000000 in
set_option maxRecDepth 100000 in
theorem neOwn_spec {loA hiA : Nat} (nA : NA) (A : Net) (w : World) (hA : IsNet loA hiA w nA A) (hhiA : hiA ≤ w.heap.size) (hnA : totN A ≤ 1048576) :
    Fn Try.prog 92 #[netV nA A] w (fun o9 w' => ∃ h' vs, o9 = netV h' A ∧ NAcc w.heap.size w'.heap.size w' 74 72 3 vs h' A ∧ Ext w w') := by
  have hqA := totL_len A.ends
  have hmA : totL A.ends + A.ids.length + A.inputs.length ≤ 1048576 := hnA
  have hE := Ext.refl w
  refine Fn_of Try.func92 rfl rfl (by kernel_rfl) rfl ?_
  refine W_seq ?_
  refine W_region ?_
  refine WL_m rfl (ev_box rfl) ?_
  rintro _ w1 ⟨rfl, hN1⟩
  have hz1 := hN1.size
  replace hE := hE.trans hN1.ext
  replace hA := hA.ext hN1.ext
  have hB1 : Blk w1 _ _ [_, _, _] := hN1.blk
  refine WL_m rfl (ev_alloc zr31) ?_
  rintro _ w2 ⟨rfl, hN2⟩
  have hz2 := hN2.size
  replace hE := hE.trans hN2.ext
  replace hA := hA.ext hN2.ext
  replace hB1 := hB1.ext hN2.ext
  have hB2 : Blk w2 _ _ [_, _, _] := hN2.blk
  refine WL_nil ?_
  refine thenE_n ?_
  refine W_seq ?_
  refine W_drawT (X := Nat) (fun x => [(3, ptr x 0)]) (fun x w' => ∃ a2 c2 m a3 c3, (w2.heap.size ≤ m ∧ m ≤ w'.heap.size ∧ w2.heap.size ≤ x ∧ x < w'.heap.size) ∧ Blk w' x 31 [.slice none 0 0, .slice a2 A.ids.length c2, .slice a3 A.inputs.length c3] ∧ OwnH w2.heap.size m x (x + 1) w' 3 1 a2 A.ids.length c2 (A.ids.map VI) ∧ OwnH m w'.heap.size x (x + 1) w' 3 1 a3 A.inputs.length c3 (A.inputs.map VI) ∧ Ext w2 w') w2.heap.size (by omega) (.q 0 (.q 1 (.q 3 (.q 4 (.b 2 (.b 5 (.q 6 (.a 7 (.a 8 .done))) 7 (.a 5 (.q 6 (.a 8 .done)))) 7 (.a 2 (.a 5 (.q 6 (.a 8 .done))))))))) mixed (by kernel_rfl) rfl (by kernel_rfl) ?_ ?_
  · have hT := Ext.refl w2
    intro wd1 hEd1 hzd1
    replace hE := hE.trans hEd1
    replace hT := hT.trans hEd1
    replace hA := hA.ext hEd1
    replace hB1 := hB1.ext hEd1
    replace hB2 := hB2.ext hEd1
    have hDd1 := (Lo.refl (by omega) : Lo w2.heap.size wd1 wd1)
    refine PT_q rfl rfl (fun wq hq => ev_fieldAddr fo31_1 rfl) ?_
    refine PT_q rfl rfl (fun wq hq => ev_load one23 rfl ((hB1.lo hq.1 (by omega)).cell rfl)) ?_
    refine PT_q rfl rfl (fun wq hq => ev_fieldAddr fo31_2 rfl) ?_
    refine PT_q rfl rfl (fun wq hq => ev_load one23 rfl ((hB1.lo hq.1 (by omega)).cell rfl)) ?_
    refine PT_b ?_ ?_
    · refine PA_m w2.heap.size rfl rfl (ev_call rfl (l1Own_own _ _ A.ids _ hA.ids (by omega) (by omega))) ?_
      rintro _ w8 ⟨a8, c8, rfl, hO8, hE8⟩
      have hz8 := hE8.size
      replace hE := hE.trans hE8
      replace hT := hT.trans hE8
      replace hDd1 := hDd1.trans hE8
      replace hA := hA.ext hE8
      replace hB1 := hB1.ext hE8
      replace hB2 := hB2.ext hE8
      replace hO8 := hO8.h
      refine ⟨by omega, fun _ hx => ⟨hDd1.lo hx (by omega), trivial⟩, ?_⟩
      have hDd1 := (Lo.refl (by omega) : Lo w2.heap.size w8 w8)
      refine PT_b ?_ ?_
      · refine PA_m w2.heap.size rfl rfl (ev_call rfl (l1Own_own _ _ A.inputs _ hA.inputs (by omega) (by omega))) ?_
        rintro _ w11 ⟨a11, c11, rfl, hO11, hE11⟩
        have hz11 := hE11.size
        replace hE := hE.trans hE11
        replace hT := hT.trans hE11
        replace hDd1 := hDd1.trans hE11
        replace hA := hA.ext hE11
        replace hB1 := hB1.ext hE11
        replace hB2 := hB2.ext hE11
        replace hO8 := hO8.ext hE11
        replace hO11 := hO11.h
        refine ⟨by omega, fun _ hx => ⟨hDd1.lo hx (by omega), trivial⟩, ?_⟩
        have hDd1 := (Lo.refl (by omega) : Lo w2.heap.size w11 w11)
        refine PT_q rfl rfl (fun wq hq => ev_buildP2 sn31_3 zr31 rfl rfl rfl rfl rfl rfl) ?_
        refine PT_a ?_
        refine PA_m w2.heap.size rfl rfl (ev_alloc zr31) ?_
        rintro _ w3 ⟨rfl, hN3⟩
        have hz3 := hN3.size
        replace hE := hE.trans hN3.ext
        replace hT := hT.trans hN3.ext
        replace hDd1 := hDd1.trans hN3.ext
        replace hA := hA.ext hN3.ext
        replace hB1 := hB1.ext hN3.ext
        replace hB2 := hB2.ext hN3.ext
        replace hO8 := hO8.ext hN3.ext
        replace hO11 := hO11.ext hN3.ext
        have hB3 : Blk w3 _ _ [_, _, _] := hN3.blk
        refine ⟨by omega, fun _ hx => ⟨hDd1.lo hx (by omega), trivial⟩, ?_⟩
        have hDd1 := (Lo.refl (by omega) : Lo w2.heap.size w3 w3)
        refine PT_a ?_
        refine PA_s w2.heap.size rfl (ev_stores sz31 rfl rfl rfl (by simp [Value.oneCell']) hB3 (by simp)) ?_
        rintro _ w1_8 hS1_8
        have hz1_8 := hS1_8.size
        replace hE := hE.sto hS1_8 (by omega)
        replace hT := hT.sto hS1_8 (by omega)
        replace hDd1 := hDd1.sto hS1_8 (by omega)
        replace hA := hA.sto hS1_8 (by omega)
        replace hB1 := hB1.sto hS1_8 (by omega)
        replace hB2 := hB2.sto hS1_8 (by omega)
        replace hO8 := hO8.sto hS1_8 (by omega)
        replace hO11 := hO11.sto hS1_8 (by omega)
        replace hB3 : Blk w1_8 _ _ [_, _, _] := hS1_8.blk
        refine ⟨by omega, fun _ hx => ⟨hDd1.lo hx (by omega), trivial⟩, ?_⟩
        have hDd1 := (Lo.refl (by omega) : Lo w2.heap.size w1_8 w1_8)
        exact PT_nil 8 hB3.num rfl ⟨rfl, trivial⟩ rfl ⟨a8, c8, w8.heap.size, a11, c11, ⟨(by (try dsimp only [Blk.num]); omega), (by (try dsimp only [Blk.num]); omega), (by (try dsimp only [Blk.num]); omega), (by (try dsimp only [Blk.num]); omega)⟩, hB3, hO8.off (by (try dsimp only [Blk.num]); omega) (by (try dsimp only [Blk.num]); omega) (by (try dsimp only [Blk.num]); omega), hO11.off (by (try dsimp only [Blk.num]); omega) (by (try dsimp only [Blk.num]); omega) (by (try dsimp only [Blk.num]); omega), hT⟩
      · refine PA_m w2.heap.size rfl rfl (ev_alloc zr31) ?_
        rintro _ w3 ⟨rfl, hN3⟩
        have hz3 := hN3.size
        replace hE := hE.trans hN3.ext
        replace hT := hT.trans hN3.ext
        replace hDd1 := hDd1.trans hN3.ext
        replace hA := hA.ext hN3.ext
        replace hB1 := hB1.ext hN3.ext
        replace hB2 := hB2.ext hN3.ext
        replace hO8 := hO8.ext hN3.ext
        have hB3 : Blk w3 _ _ [_, _, _] := hN3.blk
        refine ⟨by omega, fun _ hx => ⟨hDd1.lo hx (by omega), trivial⟩, ?_⟩
        have hDd1 := (Lo.refl (by omega) : Lo w2.heap.size w3 w3)
        refine PT_a ?_
        refine PA_m w2.heap.size rfl rfl (ev_call rfl (l1Own_own _ _ A.inputs _ hA.inputs (by omega) (by omega))) ?_
        rintro _ w11 ⟨a11, c11, rfl, hO11, hE11⟩
        have hz11 := hE11.size
        replace hE := hE.trans hE11
        replace hT := hT.trans hE11
        replace hDd1 := hDd1.trans hE11
        replace hA := hA.ext hE11
        replace hB1 := hB1.ext hE11
        replace hB2 := hB2.ext hE11
        replace hO8 := hO8.ext hE11
        replace hB3 := hB3.ext hE11
        replace hO11 := hO11.h
        refine ⟨by omega, fun _ hx => ⟨hDd1.lo hx (by omega), trivial⟩, ?_⟩
        have hDd1 := (Lo.refl (by omega) : Lo w2.heap.size w11 w11)
        refine PT_q rfl rfl (fun wq hq => ev_buildP2 sn31_3 zr31 rfl rfl rfl rfl rfl rfl) ?_
        refine PT_a ?_
        refine PA_s w2.heap.size rfl (ev_stores sz31 rfl rfl rfl (by simp [Value.oneCell']) hB3 (by simp)) ?_
        rintro _ w1_8 hS1_8
        have hz1_8 := hS1_8.size
        replace hE := hE.sto hS1_8 (by omega)
        replace hT := hT.sto hS1_8 (by omega)
        replace hDd1 := hDd1.sto hS1_8 (by omega)
        replace hA := hA.sto hS1_8 (by omega)
        replace hB1 := hB1.sto hS1_8 (by omega)
        replace hB2 := hB2.sto hS1_8 (by omega)
        replace hO8 := hO8.sto hS1_8 (by omega)
        replace hO11 := hO11.sto hS1_8 (by omega)
        replace hB3 : Blk w1_8 _ _ [_, _, _] := hS1_8.blk
        refine ⟨by omega, fun _ hx => ⟨hDd1.lo hx (by omega), trivial⟩, ?_⟩
        have hDd1 := (Lo.refl (by omega) : Lo w2.heap.size w1_8 w1_8)
        exact PT_nil 8 hB3.num rfl ⟨rfl, trivial⟩ rfl ⟨a8, c8, w8.heap.size, a11, c11, ⟨(by (try dsimp only [Blk.num]); omega), (by (try dsimp only [Blk.num]); omega), (by (try dsimp only [Blk.num]); omega), (by (try dsimp only [Blk.num]); omega)⟩, hB3, hO8.off (by (try dsimp only [Blk.num]); omega) (by (try dsimp only [Blk.num]); omega) (by (try dsimp only [Blk.num]); omega), hO11.off (by (try dsimp only [Blk.num]); omega) (by (try dsimp only [Blk.num]); omega) (by (try dsimp only [Blk.num]); omega), hT⟩
    · refine PA_m w2.heap.size rfl rfl (ev_alloc zr31) ?_
      rintro _ w3 ⟨rfl, hN3⟩
      have hz3 := hN3.size
      replace hE := hE.trans hN3.ext
      replace hT := hT.trans hN3.ext
      replace hDd1 := hDd1.trans hN3.ext
      replace hA := hA.ext hN3.ext
      replace hB1 := hB1.ext hN3.ext
      replace hB2 := hB2.ext hN3.ext
      have hB3 : Blk w3 _ _ [_, _, _] := hN3.blk
      refine ⟨by omega, fun _ hx => ⟨hDd1.lo hx (by omega), trivial⟩, ?_⟩
      have hDd1 := (Lo.refl (by omega) : Lo w2.heap.size w3 w3)
      refine PT_a ?_
      refine PA_m w2.heap.size rfl rfl (ev_call rfl (l1Own_own _ _ A.ids _ hA.ids (by omega) (by omega))) ?_
      rintro _ w8 ⟨a8, c8, rfl, hO8, hE8⟩
      have hz8 := hE8.size
      replace hE := hE.trans hE8
      replace hT := hT.trans hE8
      replace hDd1 := hDd1.trans hE8
      replace hA := hA.ext hE8
      replace hB1 := hB1.ext hE8
      replace hB2 := hB2.ext hE8
      replace hB3 := hB3.ext hE8
      replace hO8 := hO8.h
      refine ⟨by omega, fun _ hx => ⟨hDd1.lo hx (by omega), trivial⟩, ?_⟩
      have hDd1 := (Lo.refl (by omega) : Lo w2.heap.size w8 w8)
      refine PT_a ?_
      refine PA_m w2.heap.size rfl rfl (ev_call rfl (l1Own_own _ _ A.inputs _ hA.inputs (by omega) (by omega))) ?_
      rintro _ w11 ⟨a11, c11, rfl, hO11, hE11⟩
      have hz11 := hE11.size
      replace hE := hE.trans hE11
      replace hT := hT.trans hE11
      replace hDd1 := hDd1.trans hE11
      replace hA := hA.ext hE11
      replace hB1 := hB1.ext hE11
      replace hB2 := hB2.ext hE11
      replace hB3 := hB3.ext hE11
      replace hO8 := hO8.ext hE11
      replace hO11 := hO11.h
      refine ⟨by omega, fun _ hx => ⟨hDd1.lo hx (by omega), trivial⟩, ?_⟩
      have hDd1 := (Lo.refl (by omega) : Lo w2.heap.size w11 w11)
      refine PT_q rfl rfl (fun wq hq => ev_buildP2 sn31_3 zr31 rfl rfl rfl rfl rfl rfl) ?_
      refine PT_a ?_
      refine PA_s w2.heap.size rfl (ev_stores sz31 rfl rfl rfl (by simp [Value.oneCell']) hB3 (by simp)) ?_
      rintro _ w1_8 hS1_8
      have hz1_8 := hS1_8.size
      replace hE := hE.sto hS1_8 (by omega)
      replace hT := hT.sto hS1_8 (by omega)
      replace hDd1 := hDd1.sto hS1_8 (by omega)
      replace hA := hA.sto hS1_8 (by omega)
      replace hB1 := hB1.sto hS1_8 (by omega)
      replace hB2 := hB2.sto hS1_8 (by omega)
      replace hO8 := hO8.sto hS1_8 (by omega)
      replace hO11 := hO11.sto hS1_8 (by omega)
      replace hB3 : Blk w1_8 _ _ [_, _, _] := hS1_8.blk
      refine ⟨by omega, fun _ hx => ⟨hDd1.lo hx (by omega), trivial⟩, ?_⟩
      have hDd1 := (Lo.refl (by omega) : Lo w2.heap.size w1_8 w1_8)
      exact PT_nil 8 hB3.num rfl ⟨rfl, trivial⟩ rfl ⟨a8, c8, w8.heap.size, a11, c11, ⟨(by (try dsimp only [Blk.num]); omega), (by (try dsimp only [Blk.num]); omega), (by (try dsimp only [Blk.num]); omega), (by (try dsimp only [Blk.num]); omega)⟩, hB3, hO8.off (by (try dsimp only [Blk.num]); omega) (by (try dsimp only [Blk.num]); omega) (by (try dsimp only [Blk.num]); omega), hO11.off (by (try dsimp only [Blk.num]); omega) (by (try dsimp only [Blk.num]); omega) (by (try dsimp only [Blk.num]); omega), hT⟩
  rintro b3 wt1 ⟨a2, c2, m, a3, c3, ⟨hx1, hx2, hx3, hx4⟩, hB3, hI, hJ, hT⟩
  dsimp only [List.cons_append, List.nil_append]
  replace hE := hE.trans hT
  replace hA := hA.ext hT
  replace hB1 := hB1.ext hT
  replace hB2 := hB2.ext hT
  refine thenE_n ?_
  refine W_seq ?_
  refine W_seq ?_
  refine W_region ?_
  refine WL_q rfl (ev_fieldAddr fo31_0 rfl) ?_
  refine WL_q rfl (ev_load one29 rfl (hB1.cell rfl)) ?_
  refine WL_q rfl (ev_len Try.underlying29 rfl) ?_
  refine WL_q rfl (ev_move rfl) ?_
  refine WL_nil ?_
  refine thenE_n ?_
  refine W_block ?_
  refine W_loopC (G := Nat × Option Addr × Nat) [(2, _), (3, _), (14, _), (15, _)] ((Subs.c rfl (Subs.c rfl (Subs.c rfl (Subs.c rfl Subs.n))))) (fun ⟨i, a, c⟩ => [(16, VI (i : Int))]) (fun ⟨i, a, c⟩ w' => KX (b3) wt1 w' ∧ i ≤ A.ends.length ∧ Blk w' b3 31 [.slice a (A.ends.take i).length c, .slice a2 A.ids.length c2, .slice a3 A.inputs.length c3] ∧ RowsPF wt1.heap.size w'.heap.size w' 74 72 a c (A.ends.take i)) (fun g => A.ends.length - g.1) (0, none, 0) ((Subs.c (lkI rfl (by omega)) Subs.n)) (⟨KX.refl _ _, ⟨Nat.zero_le _, hB3, RowsPF.nil⟩⟩) ?_
  rintro ⟨i, a, c⟩ wL0 ⟨hRL0, hi', hB3, hR⟩
  have hzL0 := hRL0.size
  replace hA := hA.kx hRL0 (by omega)
  replace hB1 := hB1.kx hRL0 (by omega)
  replace hB2 := hB2.kx hRL0 (by omega)
  replace hI := hI.kx hRL0 (by omega)
  replace hJ := hJ.kx hRL0 (by omega)
  replace hE := hE.kx hRL0 (by omega)
  refine W_seq ?_
  refine W_region ?_
  refine WL_q rfl (ev_lss rfl rfl) ?_
  refine WL_nil ?_
  refine thenE_n ?_
  refine W_seq ?_
  refine W_cond rfl (fun hg17 => ?_) (fun hg17 => ?_)
  · have hp17 := of_decide_eq_true hg17
    refine W_skip ?_
    refine thenE_n ?_
    refine W_seq ?_
    refine W_block ?_
    refine W_seq ?_
    refine W_region ?_
    have hlt : i < A.ends.length := by omega
    have htl9 := totL_le hlt
    have htk : (A.ends.take i).length = i := by rw [List.length_take]; omega
    have hl18 : i < A.ends.length := by omega
    have ht18 := totL_le hl18
    obtain ⟨a18, c18, hc18, hr18⟩ := hA.ends.row hl18
    refine WL_q rfl (ev_indexAddr Try.underlying29 sz72 rfl rfl (hA.ends.isSome (by omega)) (by omega) (by omega)) ?_
    refine WL_q rfl (ev_load one72 rfl (hc18)) ?_
    refine WL_q rfl (ev_assign rfl) ?_
    refine WL_nil ?_
    refine thenE_n ?_
    refine W_drawZ 8 wt1.heap.size wL0.heap.size 0 0 (fun w' => True) [(0, true), (1, true), (3, true), (2, false), (4, false), (5, false), (6, false), (7, true), (8, false)] mixed (by kernel_rfl) rfl (by kernel_rfl) (fun _ _ => trivial) ?_
    intro wd5 hEd5 hzd5
    replace hE := hE.trans hEd5
    replace hRL0 := hRL0.trans hEd5
    replace hA := hA.ext hEd5
    replace hB1 := hB1.ext hEd5
    replace hB2 := hB2.ext hEd5
    replace hI := hI.ext hEd5
    replace hJ := hJ.ext hEd5
    replace hB3 := hB3.ext hEd5
    replace hR := hR.ext hEd5
    replace hr18 := hr18.ext hEd5
    have hDd5 := (Rg.refl : Rg wt1.heap.size wL0.heap.size 0 0 wd5 wd5)
    refine PZ_q rfl rfl rfl (fun wq hq => ev_fieldAddr fo31_0 rfl) ?_
    refine PZ_q rfl rfl rfl (fun wq hq => ev_load one29 rfl ((hB3.rg hq.1 (by omega)).cell rfl)) ?_
    refine PZ_q rfl rfl rfl (fun wq hq => ev_move rfl) ?_
    refine PZ_m rfl rfl rfl (ev_lit0 Try.underlying72 el74) ?_
    rintro _ w22 ⟨rfl, hN22⟩
    have hz22 := hN22.size
    replace hE := hE.trans hN22.ext
    replace hRL0 := hRL0.trans hN22.ext
    replace hDd5 := hDd5.trans hN22.ext
    replace hR := hR.ext hN22.ext
    have hB22 := hN22.blk
    have hOz := (Own.of_new (n := 0) (sz := 2) hN22 rfl (by decide)).h
    refine ⟨⟨hDd5, trivial⟩, ?_⟩
    have hA_4 := hA.rg hDd5 (by omega)
    have hB1_4 := hB1.rg hDd5 (by omega)
    have hB2_4 := hB2.rg hDd5 (by omega)
    have hI_4 := hI.rg hDd5 (by omega)
    have hJ_4 := hJ.rg hDd5 (by omega)
    have hB3_4 := hB3.rg hDd5 (by omega)
    have hr18_4 := hr18.rg hDd5 (by omega)
    refine PZ_m rfl rfl rfl (ev_appendT Try.underlying72 el74 rfl (by decide) rfl rfl hOz hr18_4.sat (pairCells_length _) (pairCells_one _) (by omega) (by unfold maxLen; omega) (by omega)) ?_
    rintro _ w24 ⟨a24, c24, rfl, hO24, hK24, hQ24⟩
    have hz24 := hK24.size
    replace hE := hE.rg hK24 (by omega)
    replace hRL0 := hRL0.rg hK24 (by omega)
    replace hDd5 := hDd5.rg hK24 (by omega)
    replace hR := hR.rg hK24 (by omega)
    replace hOz := hO24
    replace hOz := own_zaddH hOz
    rw [show 0 + A.ends[i].length = A.ends[i].length from Nat.zero_add _]
    refine ⟨⟨hDd5, trivial⟩, ?_⟩
    have hA_5 := hA.rg hDd5 (by omega)
    have hB1_5 := hB1.rg hDd5 (by omega)
    have hB2_5 := hB2.rg hDd5 (by omega)
    have hI_5 := hI.rg hDd5 (by omega)
    have hJ_5 := hJ.rg hDd5 (by omega)
    have hB3_5 := hB3.rg hDd5 (by omega)
    have hr18_5 := hr18.rg hDd5 (by omega)
    refine PZ_m rfl rfl rfl (ev_lit1 Try.underlying29 el72 (by decide) (by decide) rfl rfl) ?_
    rintro _ w25 ⟨rfl, hN25⟩
    have hz25 := hN25.size
    replace hE := hE.trans hN25.ext
    replace hRL0 := hRL0.trans hN25.ext
    replace hDd5 := hDd5.trans hN25.ext
    replace hR := hR.ext hN25.ext
    replace hOz := hOz.ext hN25.ext
    have hB25 := hN25.blk
    refine ⟨⟨hDd5, trivial⟩, ?_⟩
    have hA_6 := hA.rg hDd5 (by omega)
    have hB1_6 := hB1.rg hDd5 (by omega)
    have hB2_6 := hB2.rg hDd5 (by omega)
    have hI_6 := hI.rg hDd5 (by omega)
    have hJ_6 := hJ.rg hDd5 (by omega)
    have hB3_6 := hB3.rg hDd5 (by omega)
    have hr18_6 := hr18.rg hDd5 (by omega)
    obtain ⟨vs26, hA26⟩ := hR
    have hP26 := hA26.out
    refine PZ_m rfl rfl rfl (ev_append Try.underlying29 el72 rfl (by decide) rfl rfl hP26 (SAt.of_blk (cs := [_]) (ds := []) hB25) rfl (by simp [Value.oneCell']) (by omega) (by unfold maxLen; omega) (by omega)) ?_
    rintro _ w26 ⟨a26, c26, rfl, hO26, hK26, hQ26⟩
    have hz26 := hK26.size
    replace hE := hE.app hK26 (fun q hq => by have h1 := (hP26.block q hq).1; have h2 := hA26.otop q hq; omega)
    replace hRL0 := hRL0.app hK26 (fun q hq => by have h1 := (hP26.block q hq).1; have h2 := hA26.otop q hq; omega)
    replace hDd5 := hDd5.app hK26 (fun q hq => by have h1 := (hP26.block q hq).1; have h2 := hA26.otop q hq; omega)
    have hP26 := hO26
    have hR := rowspf_snoc hA26 hOz.1 (by omega) (by omega) hK26 hP26 rfl hQ26 (by omega)
    refine ⟨⟨hDd5, trivial⟩, ?_⟩
    refine PZ_q rfl rfl rfl (fun wq hq => ev_fieldAddr fo31_0 rfl) ?_
    replace hA := hA.rg hDd5 (by omega)
    replace hB1 := hB1.rg hDd5 (by omega)
    replace hB2 := hB2.rg hDd5 (by omega)
    replace hI := hI.rg hDd5 (by omega)
    replace hJ := hJ.rg hDd5 (by omega)
    replace hB3 := hB3.rg hDd5 (by omega)
    replace hr18 := hr18.rg hDd5 (by omega)
    refine PZ_z rfl (ev_store sz29 rfl rfl rfl hB3 (by simp)) ?_
    rintro _ w5_8 hS5_8
    have hz5_8 := hS5_8.size
    replace hE := hE.sto hS5_8 (by omega)
    replace hRL0 := hRL0.sto hS5_8 (by omega)
    replace hA := hA.sto hS5_8 (by omega)
    replace hB1 := hB1.sto hS5_8 (by omega)
    replace hB2 := hB2.sto hS5_8 (by omega)
    replace hI := hI.sto hS5_8 (by omega)
    replace hJ := hJ.sto hS5_8 (by omega)
    replace hr18 := hr18.sto hS5_8 (by omega)
    replace hR := hR.sto hS5_8 (by omega)
    replace hB3 : Blk w5_8 _ _ [_, _, _] := hS5_8.blk
    refine PW_nil ?_
    refine blockE_n ?_
    refine thenE_n ?_
    refine W_region ?_
    refine WL_q rfl (ev_add rfl rfl (by omega)) ?_
    refine WL_q rfl (ev_move rfl) ?_
    refine WL_nil ?_
    refine thenE_n ?_
    rw [show (A.ends.take i).length + 1 = (A.ends.take (i + 1)).length by rw [List.length_take, List.length_take]; omega] at hB3
    exact ⟨(i + 1, a26, c26), (Subs.c rfl (Subs.c rfl (Subs.c rfl (Subs.c rfl Subs.n)))), (Subs.c (lkI rfl (by omega)) Subs.n), ⟨hRL0, ⟨by omega, hB3, (hR.to (List.take_append_getElem hlt)).up (by omega)⟩⟩, by first | omega | (dsimp only; omega)⟩
  · have hp17 := of_decide_eq_false hg17
    refine W_exit ?_
    refine thenE_x ?_
    refine thenE_x ?_
    refine blockE_hit ?_
    refine thenE_n ?_
    refine W_seq ?_
    refine W_region ?_
    refine WL_q rfl (ev_loads st31 sz31 rfl (cellsB hB3) rfl) ?_
    refine WL_s (ev_stores sz31 rfl rfl rfl (by simp [Value.oneCell']) hB2 (by simp)) ?_
    rintro _ w7_1 hS7_1
    have hz7_1 := hS7_1.size
    replace hE := hE.sto hS7_1 (by omega)
    replace hA := hA.sto hS7_1 (by omega)
    replace hB1 := hB1.sto hS7_1 (by omega)
    replace hI := hI.sto hS7_1 (by omega)
    replace hJ := hJ.sto hS7_1 (by omega)
    replace hB3 := hB3.sto hS7_1 (by omega)
    replace hR := hR.sto hS7_1 (by omega)
    replace hB2 : Blk w7_1 _ _ [_, _, _] := hS7_1.blk
    refine WL_nil ?_
    refine thenE_n ?_
    refine W_ret ?_
    refine retc rfl rfl st31 sz31 (cellsB hB2) rfl ?_
    have hi9 : i = A.ends.length := by omega
    subst hi9
    rw [List.take_length] at hB3 hR
    obtain ⟨vs, hR⟩ := hR
    have hNN := NAcc.mk3 hR (hI.hole (p' := 0) (q' := 0) (by omega)) (hJ.hole (p' := 0) (q' := 0) (by omega)) (by omega) (by omega) (by omega)
    exact ⟨⟨a, c, a2, c2, a3, c3⟩, vs, by rw [List.take_length]; rfl, (hNN.low (by omega)).up (by omega), hE⟩

def uniE (A B : Net) (i : Nat) : Ends := A.ends ++ (B.ends.take i).map (shiftE A.ends.length)
theorem uniE_zero (A B : Net) : uniE A B 0 = A.ends := by simp [uniE]
theorem uniE_succ {A B : Net} {i : Nat} (h : i < B.ends.length) : uniE A B i ++ [shiftE A.ends.length B.ends[i]] = uniE A B (i + 1) := by
  unfold uniE; rw [List.take_succ_eq_append_getElem h, List.map_append, List.append_assoc]; rfl
theorem uniE_len1 {A B : Net} {i : Nat} (h : i < B.ends.length) : (uniE A B i).length + 1 = (uniE A B (i + 1)).length := by rw [← uniE_succ h]; simp
theorem uniE_len (A B : Net) (i : Nat) : (uniE A B i).length ≤ A.ends.length + B.ends.length := by simp [uniE]; omega
theorem uniE_full {A B : Net} {i : Nat} (h : B.ends.length ≤ i) : uniE A B i = (uni A B).ends := by simp [uniE, uni, List.take_of_length_le h]
theorem shiftE_len (d : Int) (r : List (Int × Int)) : (shiftE d r).length = r.length := by simp [shiftE]
theorem shiftE_take {d : Int} {r : List (Int × Int)} {k : Nat} (h : k < r.length) : (shiftE d r).take k ++ [(r[k].1 + d, r[k].2)] = (shiftE d r).take (k + 1) := by
  have h2 : k < (shiftE d r).length := by rw [shiftE_len]; exact h
  rw [List.take_succ_eq_append_getElem h2]; simp [shiftE]

set_option maxHeartbeats 8000000 in
set_option maxRecDepth 100000 in
theorem neUnion_spec {loA hiA : Nat} (nA : NA) (A : Net) {loB hiB : Nat} (nB : NA) (B : Net) (w : World) (hA : IsNet loA hiA w nA A) (hhiA : hiA ≤ w.heap.size) (hnA : totN A ≤ 1048576) (hB : IsNet loB hiB w nB B) (hhiB : hiB ≤ w.heap.size) (hnB : totN B ≤ 1048576) (hkA : NOk A) (hkB : NOk B) :
    Fn Try.prog 62 #[netV nA A, netV nB B] w (fun o9 w' => ∃ h', o9 = netV h' (uni A B) ∧ IsNet w.heap.size w'.heap.size w' h' (uni A B) ∧ Ext w w') := by
  have hqA := totL_len A.ends
  have hmA : totL A.ends + A.ids.length + A.inputs.length ≤ 1048576 := hnA
  have hqB := totL_len B.ends
  have hmB : totL B.ends + B.ids.length + B.inputs.length ≤ 1048576 := hnB
  have hndA := hkA.nodes
  have hndB := hkB.nodes
  have hvB := hkB.vok
  have hidA := hkA.idl
  have hidB := hkB.idl
  have hinA := hkA.inLen
  have hinB := hkB.inLen
  have hE := Ext.refl w
  refine Fn_of Try.func62 rfl rfl (by kernel_rfl) rfl ?_
  refine W_seq ?_
  refine W_region ?_
  refine WL_m rfl (ev_box rfl) ?_
  rintro _ w2 ⟨rfl, hN2⟩
  have hz2 := hN2.size
  replace hE := hE.trans hN2.ext
  replace hA := hA.ext hN2.ext
  replace hB := hB.ext hN2.ext
  have hB2 : Blk w2 _ _ [_, _, _] := hN2.blk
  refine WL_m rfl (ev_box rfl) ?_
  rintro _ w3 ⟨rfl, hN3⟩
  have hz3 := hN3.size
  replace hE := hE.trans hN3.ext
  replace hA := hA.ext hN3.ext
  replace hB := hB.ext hN3.ext
  replace hB2 := hB2.ext hN3.ext
  have hB3 : Blk w3 _ _ [_, _, _] := hN3.blk
  refine WL_m rfl (ev_alloc zr31) ?_
  rintro _ w4 ⟨rfl, hN4⟩
  have hz4 := hN4.size
  replace hE := hE.trans hN4.ext
  replace hA := hA.ext hN4.ext
  replace hB := hB.ext hN4.ext
  replace hB2 := hB2.ext hN4.ext
  replace hB3 := hB3.ext hN4.ext
  have hB4 : Blk w4 _ _ [_, _, _] := hN4.blk
  refine WL_nil ?_
  refine thenE_n ?_
  refine W_seq ?_
  refine W_region ?_
  refine WL_q rfl (ev_loads st31 sz31 rfl (cellsB hB2) rfl) ?_
  refine WL_m rfl (ev_call rfl (neOwn_spec _ A _ hA (by omega) (by omega))) ?_
  rintro _ w12 ⟨h12, v12, rfl, hA12, hE12⟩
  have hz12 := hE12.size
  replace hE := hE.trans hE12
  replace hA := hA.ext hE12
  replace hB := hB.ext hE12
  replace hB2 := hB2.ext hE12
  replace hB3 := hB3.ext hE12
  replace hB4 := hB4.ext hE12
  refine WL_m rfl (ev_alloc zr31) ?_
  rintro _ w5 ⟨rfl, hN5⟩
  have hz5 := hN5.size
  replace hE := hE.trans hN5.ext
  replace hA := hA.ext hN5.ext
  replace hB := hB.ext hN5.ext
  replace hB2 := hB2.ext hN5.ext
  replace hB3 := hB3.ext hN5.ext
  replace hB4 := hB4.ext hN5.ext
  replace hA12 := hA12.ext hN5.ext
  have hB5 : Blk w5 _ _ [_, _, _] := hN5.blk
  refine WL_s (ev_stores sz31 rfl rfl rfl (by simp [Value.oneCell']) hB5 (by simp)) ?_
  rintro _ w1_3 hS1_3
  have hz1_3 := hS1_3.size
  replace hE := hE.sto hS1_3 (by omega)
  replace hA := hA.sto hS1_3 (by omega)
  replace hB := hB.sto hS1_3 (by omega)
  replace hB2 := hB2.sto hS1_3 (by omega)
  replace hB3 := hB3.sto hS1_3 (by omega)
  replace hB4 := hB4.sto hS1_3 (by omega)
  replace hA12 := hA12.sto hS1_3 (by omega)
  replace hB5 : Blk w1_3 _ _ [_, _, _] := hS1_3.blk
  refine WL_nil ?_
  refine thenE_n ?_
  refine W_seq ?_
  refine W_region ?_
  obtain ⟨a1, c1, a2, c2, a3, c3⟩ := h12
  replace hB5 : Blk w1_3 _ _ [.slice a1 A.ends.length c1, .slice a2 A.ids.length c2, .slice a3 A.inputs.length c3] := hB5
  have hN := hA12.at (b := w12.heap.size) (by omega)
  refine WL_q rfl (ev_fieldAddr fo31_1 rfl) ?_
  refine WL_q rfl (ev_load one23 rfl (hB5.cell rfl)) ?_
  refine WL_q rfl (ev_fieldAddr fo31_1 rfl) ?_
  refine WL_q rfl (ev_load one23 rfl (hB3.cell rfl)) ?_
  have hP17 : Own w4.heap.size w1_3 3 1 a2 A.ids.length c2 (A.ids.map VI) := hN.1.ids.1
  refine WL_m rfl (ev_append Try.underlying23 el3 rfl (by decide) rfl rfl hP17 hB.ids.sat (by simp) (ints_one _) (by omega) (by unfold maxLen; omega) (by omega)) ?_
  rintro _ w17 ⟨a17, c17, rfl, hO17, hK17, hQ17⟩
  have hz17 := hK17.size
  replace hE := hE.app hK17 (fun q hq => by have := (hP17.block q hq).1; omega)
  replace hA := hA.app hK17 (hP17) (by omega)
  replace hB := hB.app hK17 (hP17) (by omega)
  replace hB2 := hB2.app hK17 (hP17) (by omega)
  replace hB3 := hB3.app hK17 (hP17) (by omega)
  replace hB4 := hB4.app hK17 (hP17) (by omega)
  have hP17 := hO17
  replace hB5 := hB5.keep hK17 ⟨hB5.lt, fun q hq => Ne.symm (hN.2.2.1 q hq)⟩
  replace hN := hN.appIds (ys := B.ids) hK17 (by rw [List.map_append]; exact hO17) (by simp) hQ17 (by omega) (by omega)
  refine WL_q rfl (ev_fieldAddr fo31_1 rfl) ?_
  refine WL_s (ev_store sz23 rfl rfl rfl hB5 (by simp)) ?_
  rintro _ w2_6 hS2_6
  have hz2_6 := hS2_6.size
  replace hE := hE.sto hS2_6 (by omega)
  replace hA := hA.sto hS2_6 (by omega)
  replace hB := hB.sto hS2_6 (by omega)
  replace hB2 := hB2.sto hS2_6 (by omega)
  replace hB3 := hB3.sto hS2_6 (by omega)
  replace hB4 := hB4.sto hS2_6 (by omega)
  replace hN := hN.sto hS2_6 (by omega)
  replace hB5 : Blk w2_6 _ _ [_, _, _] := hS2_6.blk
  refine WL_nil ?_
  refine thenE_n ?_
  refine W_seq ?_
  refine W_region ?_
  refine WL_q rfl (ev_fieldAddr fo31_2 rfl) ?_
  refine WL_q rfl (ev_load one23 rfl (hB5.cell rfl)) ?_
  refine WL_q rfl (ev_fieldAddr fo31_2 rfl) ?_
  refine WL_q rfl (ev_load one23 rfl (hB3.cell rfl)) ?_
  have hP23 : Own w4.heap.size w2_6 3 1 a3 A.inputs.length c3 (A.inputs.map VI) := hN.1.inp.1
  refine WL_m rfl (ev_append Try.underlying23 el3 rfl (by decide) rfl rfl hP23 hB.inputs.sat (by simp) (ints_one _) (by omega) (by unfold maxLen; omega) (by omega)) ?_
  rintro _ w23 ⟨a23, c23, rfl, hO23, hK23, hQ23⟩
  have hz23 := hK23.size
  replace hE := hE.app hK23 (fun q hq => by have := (hP23.block q hq).1; omega)
  replace hA := hA.app hK23 (hP23) (by omega)
  replace hB := hB.app hK23 (hP23) (by omega)
  replace hB2 := hB2.app hK23 (hP23) (by omega)
  replace hB3 := hB3.app hK23 (hP23) (by omega)
  replace hB4 := hB4.app hK23 (hP23) (by omega)
  have hP23 := hO23
  replace hB5 := hB5.keep hK23 ⟨hB5.lt, fun q hq => Ne.symm (hN.2.2.2.1 q hq)⟩
  replace hN := hN.appInp (ys := B.inputs) hK23 (by rw [List.map_append]; exact hO23) (by simp) hQ23 (by omega) (by omega)
  refine WL_q rfl (ev_fieldAddr fo31_2 rfl) ?_
  refine WL_s (ev_store sz23 rfl rfl rfl hB5 (by simp)) ?_
  rintro _ w3_6 hS3_6
  have hz3_6 := hS3_6.size
  replace hE := hE.sto hS3_6 (by omega)
  replace hA := hA.sto hS3_6 (by omega)
  replace hB := hB.sto hS3_6 (by omega)
  replace hB2 := hB2.sto hS3_6 (by omega)
  replace hB3 := hB3.sto hS3_6 (by omega)
  replace hB4 := hB4.sto hS3_6 (by omega)
  replace hN := hN.sto hS3_6 (by omega)
  replace hB5 : Blk w3_6 _ _ [_, _, _] := hS3_6.blk
  refine WL_nil ?_
  refine thenE_n ?_
  refine W_seq ?_
  refine W_seq ?_
  refine W_region ?_
  refine WL_q rfl (ev_fieldAddr fo31_0 rfl) ?_
  refine WL_q rfl (ev_load one29 rfl (hB3.cell rfl)) ?_
  refine WL_q rfl (ev_len Try.underlying29 rfl) ?_
  refine WL_q rfl (ev_move rfl) ?_
  refine WL_nil ?_
  refine thenE_n ?_
  refine W_block ?_
  refine W_loopC (G := Nat × Option Addr × Nat × List (Option Addr × Nat)) [(2, _), (4, _), (5, _), (26, _), (27, _)] ((Subs.c rfl (Subs.c rfl (Subs.c rfl (Subs.c rfl (Subs.c rfl Subs.n)))))) (fun ⟨i, a, c, vs⟩ => [(28, VI (i : Int))]) (fun ⟨i, a, c, vs⟩ w' => Lo (w4.heap.size) w3_6 w' ∧ i ≤ B.ends.length ∧ Blk w' w12.heap.size 31 [.slice a (uniE A B i).length c, .slice a17 (A.ids.length + B.ids.length) c17, .slice a23 (A.inputs.length + B.inputs.length) c23] ∧ NAccB w12.heap.size w4.heap.size w'.heap.size w' 74 72 3 vs ⟨a, c, a17, c17, a23, c23⟩ ⟨uniE A B i, A.ids ++ B.ids, A.inputs ++ B.inputs⟩) (fun g => B.ends.length - g.1) (0, a1, c1, v12) ((Subs.c (lkI rfl (by omega)) Subs.n)) (⟨Lo.refl (by omega), ⟨Nat.zero_le _, by rw [uniE_zero]; exact hB5, by rw [uniE_zero]; exact hN.up (by omega)⟩⟩) ?_
  rintro ⟨i, a, c, vs⟩ wL0 ⟨hRL0, hi', hB5, hN⟩
  have hzL0 := hRL0.size
  replace hA := hA.lo hRL0 (by omega)
  replace hB := hB.lo hRL0 (by omega)
  replace hB2 := hB2.lo hRL0 (by omega)
  replace hB3 := hB3.lo hRL0 (by omega)
  replace hB4 := hB4.lo hRL0 (by omega)
  replace hE := hE.lo hRL0 (by omega)
  refine W_seq ?_
  refine W_region ?_
  refine WL_q rfl (ev_lss rfl rfl) ?_
  refine WL_nil ?_
  refine thenE_n ?_
  refine W_seq ?_
  refine W_cond rfl (fun hg29 => ?_) (fun hg29 => ?_)
  · have hp29 := of_decide_eq_true hg29
    refine W_skip ?_
    refine thenE_n ?_
    refine W_seq ?_
    refine W_block ?_
    refine W_seq ?_
    refine W_region ?_
    have hlt : i < B.ends.length := by omega
    have h6B := hvB.degAt hlt
    have hul := uniE_len A B i
    have hsl := shiftE_len A.ends.length B.ends[i]
    have hl30 : i < B.ends.length := by omega
    have ht30 := totL_le hl30
    obtain ⟨a30, c30, hc30, hr30⟩ := hB.ends.row hl30
    refine WL_q rfl (ev_indexAddr Try.underlying29 sz72 rfl rfl (hB.ends.isSome (by omega)) (by omega) (by omega)) ?_
    refine WL_q rfl (ev_load one72 rfl (hc30)) ?_
    refine WL_q rfl (ev_assign rfl) ?_
    refine WL_nil ?_
    refine thenE_n ?_
    refine W_seq ?_
    refine W_region ?_
    refine WL_q rfl (ev_assign rfl) ?_
    refine WL_nil ?_
    refine thenE_n ?_
    refine W_seq ?_
    refine W_seq ?_
    refine W_region ?_
    refine WL_q rfl (ev_move rfl) ?_
    refine WL_q rfl (ev_len Try.underlying72 rfl) ?_
    refine WL_q rfl (ev_move rfl) ?_
    refine WL_nil ?_
    refine thenE_n ?_
    refine W_block ?_
    refine W_loopC (G := Nat × Option Addr × Nat) [(2, _), (4, _), (5, _), (26, _), (27, _), (28, _), (32, _), (33, _)] ((Subs.c rfl (Subs.c rfl (Subs.c rfl (Subs.c rfl (Subs.c rfl (Subs.c rfl (Subs.c rfl (Subs.c rfl Subs.n))))))))) (fun ⟨k, a8, c8⟩ => [(8, .slice a8 k c8), (34, VI (k : Int))]) (fun ⟨k, a8, c8⟩ w' => Ext wL0 w' ∧ k ≤ B.ends[i].length ∧ OwnH wL0.heap.size w'.heap.size 0 0 w' 74 2 a8 k c8 (pairCells ((shiftE A.ends.length B.ends[i]).take k))) (fun g => B.ends[i].length - g.1) (0, none, 0) ((Subs.c rfl (Subs.c (lkI rfl (by omega)) Subs.n))) (⟨Ext.refl _, ⟨Nat.zero_le _, OwnH.nil⟩⟩) ?_
    rintro ⟨k, a8, c8⟩ wL2 ⟨hRL2, hk', hO⟩
    have hzL2 := hRL2.size
    replace hE := hE.trans hRL2
    replace hRL0 := hRL0.trans hRL2
    replace hA := hA.ext hRL2
    replace hB := hB.ext hRL2
    replace hB2 := hB2.ext hRL2
    replace hB3 := hB3.ext hRL2
    replace hB4 := hB4.ext hRL2
    replace hB5 := hB5.ext hRL2
    replace hN := hN.ext hRL2
    replace hr30 := hr30.ext hRL2
    refine W_seq ?_
    refine W_region ?_
    refine WL_q rfl (ev_lss rfl rfl) ?_
    refine WL_nil ?_
    refine thenE_n ?_
    refine W_seq ?_
    refine W_cond rfl (fun hg35 => ?_) (fun hg35 => ?_)
    · have hp35 := of_decide_eq_true hg35
      refine W_skip ?_
      refine thenE_n ?_
      refine W_seq ?_
      refine W_block ?_
      refine W_seq ?_
      refine W_region ?_
      have hlk : k < B.ends[i].length := by omega
      have hrng := hvB.ends _ (List.getElem_mem hlt) _ (List.getElem_mem hlk)
      refine WL_q rfl (ev_indexAddr Try.underlying72 sz74 rfl rfl (hr30.isSome (by omega)) (by omega) (by omega)) ?_
      refine WL_q rfl (ev_loads st74 sz74 rfl (hr30.cells (i := k) (by omega)) rfl) ?_
      refine WL_m rfl (ev_alloc zr74) ?_
      rintro _ w10 ⟨rfl, hN10⟩
      have hz10 := hN10.size
      replace hE := hE.trans hN10.ext
      replace hRL0 := hRL0.trans hN10.ext
      replace hRL2 := hRL2.trans hN10.ext
      replace hA := hA.ext hN10.ext
      replace hB := hB.ext hN10.ext
      replace hB2 := hB2.ext hN10.ext
      replace hB3 := hB3.ext hN10.ext
      replace hB4 := hB4.ext hN10.ext
      replace hB5 := hB5.ext hN10.ext
      replace hN := hN.ext hN10.ext
      replace hr30 := hr30.ext hN10.ext
      replace hO := hO.ext hN10.ext
      have hB10 : Blk w10 _ _ [_, _] := hN10.blk
      refine WL_s (ev_stores sz74 rfl rfl rfl (by simp [Value.oneCell']) hB10 (by simp)) ?_
      rintro _ w10_3 hS10_3
      have hz10_3 := hS10_3.size
      replace hE := hE.sto hS10_3 (by omega)
      replace hRL0 := hRL0.sto hS10_3 (by omega)
      replace hRL2 := hRL2.sto hS10_3 (by omega)
      replace hA := hA.sto hS10_3 (by omega)
      replace hB := hB.sto hS10_3 (by omega)
      replace hB2 := hB2.sto hS10_3 (by omega)
      replace hB3 := hB3.sto hS10_3 (by omega)
      replace hB4 := hB4.sto hS10_3 (by omega)
      replace hB5 := hB5.sto hS10_3 (by omega)
      replace hN := hN.sto hS10_3 (by omega)
      replace hr30 := hr30.sto hS10_3 (by omega)
      replace hO := hO.sto hS10_3 (by omega)
      replace hB10 : Blk w10_3 _ _ [_, _] := hS10_3.blk
      refine WL_nil ?_
      refine thenE_n ?_
      refine W_region ?_
      refine WL_q rfl (ev_move rfl) ?_
      refine WL_q rfl (ev_fieldAddr fo74_0 rfl) ?_
      refine WL_q rfl (ev_load one3 rfl (hB10.cell rfl)) ?_
      refine WL_q rfl (ev_fieldAddr fo31_0 rfl) ?_
      refine WL_q rfl (ev_load one29 rfl (hB2.cell rfl)) ?_
      refine WL_q rfl (ev_len Try.underlying29 rfl) ?_
      refine WL_q rfl (ev_add rfl rfl (by omega)) ?_
      refine WL_q rfl (ev_fieldAddr fo74_1 rfl) ?_
      refine WL_q rfl (ev_load one3 rfl (hB10.cell rfl)) ?_
      refine WL_q rfl (ev_build2 sn74_2 rfl rfl rfl rfl) ?_
      refine WL_m rfl (ev_lit1 Try.underlying72 el74 (by decide) (by decide) rfl rfl) ?_
      rintro _ w48 ⟨rfl, hN48⟩
      have hz48 := hN48.size
      replace hE := hE.trans hN48.ext
      replace hRL0 := hRL0.trans hN48.ext
      replace hRL2 := hRL2.trans hN48.ext
      replace hA := hA.ext hN48.ext
      replace hB := hB.ext hN48.ext
      replace hB2 := hB2.ext hN48.ext
      replace hB3 := hB3.ext hN48.ext
      replace hB4 := hB4.ext hN48.ext
      replace hB5 := hB5.ext hN48.ext
      replace hN := hN.ext hN48.ext
      replace hr30 := hr30.ext hN48.ext
      replace hO := hO.ext hN48.ext
      replace hB10 := hB10.ext hN48.ext
      have hB48 := hN48.blk
      refine WL_m rfl (ev_appendT Try.underlying72 el74 rfl (by decide) rfl rfl hO (SAt.of_blk (cs := [_, _]) (ds := []) hB48) rfl (by simp [Value.oneCell']) (by omega) (by unfold maxLen; omega) (by omega)) ?_
      rintro _ w49 ⟨a49, c49, rfl, hO49, hK49, hQ49⟩
      have hz49 := hK49.size
      replace hE := hE.rg hK49 (by omega)
      replace hRL0 := hRL0.rg hK49 (by omega)
      replace hRL2 := hRL2.rg hK49 (by omega)
      replace hA := hA.rg hK49 (by omega)
      replace hB := hB.rg hK49 (by omega)
      replace hB2 := hB2.rg hK49 (by omega)
      replace hB3 := hB3.rg hK49 (by omega)
      replace hB4 := hB4.rg hK49 (by omega)
      replace hB5 := hB5.rg hK49 (by omega)
      replace hN := hN.rg hK49 (by omega)
      replace hr30 := hr30.rg hK49 (by omega)
      replace hB10 := hB10.rg hK49 (by omega)
      replace hB48 := hB48.rg hK49 (by omega)
      replace hO := hO49
      replace hO := ownt_snocP hO
      refine WL_q rfl (ev_assign rfl) ?_
      refine WL_nil ?_
      refine blockE_n ?_
      refine thenE_n ?_
      refine W_region ?_
      refine WL_q rfl (ev_add rfl rfl (by omega)) ?_
      refine WL_q rfl (ev_move rfl) ?_
      refine WL_nil ?_
      refine thenE_n ?_
      exact ⟨(k + 1, a49, c49), (Subs.c rfl (Subs.c rfl (Subs.c rfl (Subs.c rfl (Subs.c rfl (Subs.c rfl (Subs.c rfl (Subs.c rfl Subs.n)))))))), (Subs.c rfl (Subs.c (lkI rfl (by omega)) Subs.n)), ⟨hRL2, ⟨by omega, (ownt_toP hO (shiftE_take hlk) rfl).up (Nat.le_refl _) (by omega)⟩⟩, by first | omega | (dsimp only; omega)⟩
    · have hp35 := of_decide_eq_false hg35
      refine W_exit ?_
      refine thenE_x ?_
      refine thenE_x ?_
      refine blockE_hit ?_
      refine thenE_n ?_
      refine W_region ?_
      have hk9 : k = (shiftE A.ends.length B.ends[i]).length := by omega
      subst hk9
      rw [List.take_length] at hO
      refine WL_q rfl (ev_fieldAddr fo31_0 rfl) ?_
      refine WL_q rfl (ev_load one29 rfl (hB5.cell rfl)) ?_
      refine WL_q rfl (ev_move rfl) ?_
      refine WL_m rfl (ev_lit1 Try.underlying29 el72 (by decide) (by decide) rfl rfl) ?_
      rintro _ w54 ⟨rfl, hN54⟩
      have hz54 := hN54.size
      replace hE := hE.trans hN54.ext
      replace hRL0 := hRL0.trans hN54.ext
      replace hA := hA.ext hN54.ext
      replace hB := hB.ext hN54.ext
      replace hB2 := hB2.ext hN54.ext
      replace hB3 := hB3.ext hN54.ext
      replace hB4 := hB4.ext hN54.ext
      replace hB5 := hB5.ext hN54.ext
      replace hN := hN.ext hN54.ext
      replace hr30 := hr30.ext hN54.ext
      replace hO := hO.ext hN54.ext
      have hB54 := hN54.blk
      have hP55 : Own w4.heap.size w54 72 1 a (uniE A B i).length c ((vs.zip (uniE A B i)).map fun p => rowVal p.1 p.2) := hN.1.rows.out
      refine WL_m rfl (ev_append Try.underlying29 el72 rfl (by decide) rfl rfl hP55 (SAt.of_blk (cs := [_]) (ds := []) hB54) rfl (by simp [Value.oneCell']) (by omega) (by unfold maxLen; omega) (by omega)) ?_
      rintro _ w55 ⟨a55, c55, rfl, hO55, hK55, hQ55⟩
      have hz55 := hK55.size
      replace hE := hE.app hK55 (fun q hq => by have := (hP55.block q hq).1; omega)
      replace hRL0 := hRL0.app hK55 (fun q hq => by have := (hP55.block q hq).1; omega)
      replace hA := hA.app hK55 (hP55) (by omega)
      replace hB := hB.app hK55 (hP55) (by omega)
      replace hB2 := hB2.app hK55 (hP55) (by omega)
      replace hB3 := hB3.app hK55 (hP55) (by omega)
      replace hB4 := hB4.app hK55 (hP55) (by omega)
      replace hr30 := hr30.app hK55 (hP55) (by omega)
      have hP55 := hO55
      replace hB5 := hB5.keep hK55 ⟨hB5.lt, fun q hq => Ne.symm (hN.2.1 q hq)⟩
      replace hN := hN.snocRow (hO.1.mono (by omega)) (fun q hq => by have := (hO.1.block q hq).1; exact ⟨by omega, by omega⟩) hK55 hO55 rfl hQ55 (by omega) (by omega)
      refine WL_q rfl (ev_fieldAddr fo31_0 rfl) ?_
      refine WL_s (ev_store sz29 rfl rfl rfl hB5 (by simp)) ?_
      rintro _ w13_6 hS13_6
      have hz13_6 := hS13_6.size
      replace hE := hE.sto hS13_6 (by omega)
      replace hRL0 := hRL0.sto hS13_6 (by omega)
      replace hA := hA.sto hS13_6 (by omega)
      replace hB := hB.sto hS13_6 (by omega)
      replace hB2 := hB2.sto hS13_6 (by omega)
      replace hB3 := hB3.sto hS13_6 (by omega)
      replace hB4 := hB4.sto hS13_6 (by omega)
      replace hr30 := hr30.sto hS13_6 (by omega)
      replace hN := hN.sto hS13_6 (by omega)
      replace hB5 : Blk w13_6 _ _ [_, _, _] := hS13_6.blk
      refine WL_nil ?_
      refine blockE_n ?_
      refine thenE_n ?_
      refine W_region ?_
      refine WL_q rfl (ev_add rfl rfl (by omega)) ?_
      refine WL_q rfl (ev_move rfl) ?_
      refine WL_nil ?_
      refine thenE_n ?_
      rw [uniE_len1 hlt] at hB5
      replace hN := hN.to (show _ = (⟨uniE A B (i + 1), A.ids ++ B.ids, A.inputs ++ B.inputs⟩ : Net) by rw [← uniE_succ hlt])
      exact ⟨(i + 1, a55, c55, vs ++ [(a8, c8)]), (Subs.c rfl (Subs.c rfl (Subs.c rfl (Subs.c rfl (Subs.c rfl Subs.n))))), (Subs.c (lkI rfl (by omega)) Subs.n), ⟨hRL0, ⟨by omega, hB5, hN.up (by omega)⟩⟩, by first | omega | (dsimp only; omega)⟩
  · have hp29 := of_decide_eq_false hg29
    refine W_exit ?_
    refine thenE_x ?_
    refine thenE_x ?_
    refine blockE_hit ?_
    refine thenE_n ?_
    refine W_seq ?_
    refine W_region ?_
    refine WL_q rfl (ev_loads st31 sz31 rfl (cellsB hB5) rfl) ?_
    refine WL_s (ev_stores sz31 rfl rfl rfl (by simp [Value.oneCell']) hB4 (by simp)) ?_
    rintro _ w15_1 hS15_1
    have hz15_1 := hS15_1.size
    replace hE := hE.sto hS15_1 (by omega)
    replace hA := hA.sto hS15_1 (by omega)
    replace hB := hB.sto hS15_1 (by omega)
    replace hB2 := hB2.sto hS15_1 (by omega)
    replace hB3 := hB3.sto hS15_1 (by omega)
    replace hB5 := hB5.sto hS15_1 (by omega)
    replace hN := hN.sto hS15_1 (by omega)
    replace hB4 : Blk w15_1 _ _ [_, _, _] := hS15_1.blk
    refine WL_nil ?_
    refine thenE_n ?_
    refine W_ret ?_
    refine retc rfl rfl st31 sz31 (cellsB hB4) rfl ?_
    have hi9 : B.ends.length ≤ i := by omega
    have hul9 : (uniE A B i).length = A.ends.length + B.ends.length := by rw [uniE_full hi9, uni_len]
    have hN2 := hN.to (show _ = uni A B by rw [uniE_full hi9]; rfl)
    exact ⟨⟨a, c, a17, c17, a23, c23⟩, by rw [hul9]; exact (uni_val ⟨a, c, a17, c17, a23, c23⟩ A B).symm, ((hN2.1.low (by omega)).up (by omega)).is, hE⟩

set_option maxRecDepth 100000 in
theorem nodesOk_spec {loA hiA : Nat} (nA : NA) (A : Net) (v : Int) {loB hiB : Nat} (nB : NA) (B : Net) (x : Int) (w : World) (hA : IsNet loA hiA w nA A) (hhiA : hiA ≤ w.heap.size) (hnA : totN A ≤ 1048576) (hB : IsNet loB hiB w nB B) (hhiB : hiB ≤ w.heap.size) (hnB : totN B ≤ 1048576) :
    Fn Try.prog 38 #[netV nA A, VI v, netV nB B, VI x] w (fun o9 w' => ∃ b, o9 = VB b ∧ (b = true ↔ (NOk A ∧ NOk B) ∧ HasNode A v ∧ HasNode B x) ∧ Ext w w') := by
  have hqA := totL_len A.ends
  have hmA : totL A.ends + A.ids.length + A.inputs.length ≤ 1048576 := hnA
  have hqB := totL_len B.ends
  have hmB : totL B.ends + B.ids.length + B.inputs.length ≤ 1048576 := hnB
  have hE := Ext.refl w
  refine Fn_of Try.func38 rfl rfl (by kernel_rfl) rfl ?_
  refine W_seq ?_
  refine W_region ?_
  refine WL_m rfl (ev_box rfl) ?_
  rintro _ w4 ⟨rfl, hN4⟩
  have hz4 := hN4.size
  replace hE := hE.trans hN4.ext
  replace hA := hA.ext hN4.ext
  replace hB := hB.ext hN4.ext
  have hB4 : Blk w4 _ _ [_, _, _] := hN4.blk
  refine WL_m rfl (ev_box rfl) ?_
  rintro _ w6 ⟨rfl, hN6⟩
  have hz6 := hN6.size
  replace hE := hE.trans hN6.ext
  replace hA := hA.ext hN6.ext
  replace hB := hB.ext hN6.ext
  replace hB4 := hB4.ext hN6.ext
  have hB6 : Blk w6 _ _ [_, _, _] := hN6.blk
  refine WL_q rfl (ev_assign rfl) ?_
  refine WL_nil ?_
  refine thenE_n ?_
  refine W_seq ?_
  refine W_region ?_
  refine WL_q rfl (ev_loads st31 sz31 rfl (cellsB hB4) rfl) ?_
  refine WL_m rfl (ev_call rfl (IsNetwork_spec _ A _ hA (by omega) (by omega))) ?_
  rintro _ w10 ⟨b10, rfl, hb10, hE10⟩
  have hz10 := hE10.size
  replace hE := hE.trans hE10
  replace hA := hA.ext hE10
  replace hB := hB.ext hE10
  replace hB4 := hB4.ext hE10
  replace hB6 := hB6.ext hE10
  refine WL_q rfl (ev_move rfl) ?_
  refine WL_splitv (t := 11) rfl (fun hg10 => ?_) (fun hg10 => ?_)
  · have hp10 := hb10.1 hg10
    refine WL_qg rfl rfl hg10 rfl (ev_loads st31 sz31 rfl (cellsB hB6) rfl) ?_
    refine WL_mg rfl rfl hg10 rfl (ev_call rfl (IsNetwork_spec _ B _ hB (by omega) (by omega))) ?_
    rintro _ w13 ⟨b13, rfl, hb13, hE13⟩
    have hz13 := hE13.size
    replace hE := hE.trans hE13
    replace hA := hA.ext hE13
    replace hB := hB.ext hE13
    replace hB4 := hB4.ext hE13
    replace hB6 := hB6.ext hE13
    refine WL_q rfl (ev_pick_t rfl hg10 rfl) ?_
    refine WL_q rfl (ev_move rfl) ?_
    refine WL_splitv (t := 15) rfl (fun hg13 => ?_) (fun hg13 => ?_)
    · have hp13 := hb13.1 hg13
      refine WL_qg rfl rfl hg13 rfl (ev_loads st31 sz31 rfl (cellsB hB4) rfl) ?_
      refine WL_qg rfl rfl hg13 rfl (ev_move rfl) ?_
      refine WL_mg rfl rfl hg13 rfl (ev_call rfl (hasNode_spec _ A _ _ (by omega))) ?_
      rintro _ w18 ⟨b18, rfl, hb18, hE18⟩
      have hz18 := hE18.size
      replace hE := hE.trans hE18
      replace hA := hA.ext hE18
      replace hB := hB.ext hE18
      replace hB4 := hB4.ext hE18
      replace hB6 := hB6.ext hE18
      refine WL_q rfl (ev_pick_t rfl hg13 rfl) ?_
      refine WL_q rfl (ev_move rfl) ?_
      refine WL_splitv (t := 20) rfl (fun hg18 => ?_) (fun hg18 => ?_)
      · have hp18 := hb18.1 hg18
        refine WL_qg rfl rfl hg18 rfl (ev_loads st31 sz31 rfl (cellsB hB6) rfl) ?_
        refine WL_qg rfl rfl hg18 rfl (ev_move rfl) ?_
        refine WL_mg rfl rfl hg18 rfl (ev_call rfl (hasNode_spec _ B _ _ (by omega))) ?_
        rintro _ w23 ⟨b23, rfl, hb23, hE23⟩
        have hz23 := hE23.size
        replace hE := hE.trans hE23
        replace hA := hA.ext hE23
        replace hB := hB.ext hE23
        replace hB4 := hB4.ext hE23
        replace hB6 := hB6.ext hE23
        refine WL_q rfl (ev_pick_t rfl hg18 rfl) ?_
        refine WL_q rfl (ev_assign rfl) ?_
        refine WL_nil ?_
        refine thenE_n ?_
        refine W_ret ?_
        refine ret1 rfl rfl ?_
        first | (exact ⟨_, rfl, ⟨fun h => ⟨⟨hp10, hp13⟩, hp18, hb23.1 h⟩, fun h => hb23.2 h.2.2⟩, hE⟩) | (exact ⟨_, rfl, ffI fun h => hp18 h.2.1, hE⟩) | (exact ⟨_, rfl, ffI fun h => hp13 h.1.2, hE⟩) | (exact ⟨_, rfl, ffI fun h => hp10 h.1.1, hE⟩)
      · have hp18 := ttN hb18 hg18
        refine WL_no rfl rfl hg18 rfl ?_
        refine WL_no rfl rfl hg18 rfl ?_
        refine WL_no rfl rfl hg18 rfl ?_
        refine WL_q rfl (ev_pick_f rfl hg18 rfl) ?_
        refine WL_q rfl (ev_assign rfl) ?_
        refine WL_nil ?_
        refine thenE_n ?_
        refine W_ret ?_
        refine ret1 rfl rfl ?_
        first | (exact ⟨_, rfl, ⟨fun h => ⟨⟨hp10, hp13⟩, hp18, hb23.1 h⟩, fun h => hb23.2 h.2.2⟩, hE⟩) | (exact ⟨_, rfl, ffI fun h => hp18 h.2.1, hE⟩) | (exact ⟨_, rfl, ffI fun h => hp13 h.1.2, hE⟩) | (exact ⟨_, rfl, ffI fun h => hp10 h.1.1, hE⟩)
    · have hp13 := ttN hb13 hg13
      refine WL_no rfl rfl hg13 rfl ?_
      refine WL_no rfl rfl hg13 rfl ?_
      refine WL_no rfl rfl hg13 rfl ?_
      refine WL_q rfl (ev_pick_f rfl hg13 rfl) ?_
      refine WL_q rfl (ev_move rfl) ?_
      refine WL_no rfl rfl rfl rfl ?_
      refine WL_no rfl rfl rfl rfl ?_
      refine WL_no rfl rfl rfl rfl ?_
      refine WL_q rfl (ev_pick_f rfl rfl rfl) ?_
      refine WL_q rfl (ev_assign rfl) ?_
      refine WL_nil ?_
      refine thenE_n ?_
      refine W_ret ?_
      refine ret1 rfl rfl ?_
      first | (exact ⟨_, rfl, ⟨fun h => ⟨⟨hp10, hp13⟩, hp18, hb23.1 h⟩, fun h => hb23.2 h.2.2⟩, hE⟩) | (exact ⟨_, rfl, ffI fun h => hp18 h.2.1, hE⟩) | (exact ⟨_, rfl, ffI fun h => hp13 h.1.2, hE⟩) | (exact ⟨_, rfl, ffI fun h => hp10 h.1.1, hE⟩)
  · have hp10 := ttN hb10 hg10
    refine WL_no rfl rfl hg10 rfl ?_
    refine WL_no rfl rfl hg10 rfl ?_
    refine WL_q rfl (ev_pick_f rfl hg10 rfl) ?_
    refine WL_q rfl (ev_move rfl) ?_
    refine WL_no rfl rfl rfl rfl ?_
    refine WL_no rfl rfl rfl rfl ?_
    refine WL_no rfl rfl rfl rfl ?_
    refine WL_q rfl (ev_pick_f rfl rfl rfl) ?_
    refine WL_q rfl (ev_move rfl) ?_
    refine WL_no rfl rfl rfl rfl ?_
    refine WL_no rfl rfl rfl rfl ?_
    refine WL_no rfl rfl rfl rfl ?_
    refine WL_q rfl (ev_pick_f rfl rfl rfl) ?_
    refine WL_q rfl (ev_assign rfl) ?_
    refine WL_nil ?_
    refine thenE_n ?_
    refine W_ret ?_
    refine ret1 rfl rfl ?_
    first | (exact ⟨_, rfl, ⟨fun h => ⟨⟨hp10, hp13⟩, hp18, hb23.1 h⟩, fun h => hb23.2 h.2.2⟩, hE⟩) | (exact ⟨_, rfl, ffI fun h => hp18 h.2.1, hE⟩) | (exact ⟨_, rfl, ffI fun h => hp13 h.1.2, hE⟩) | (exact ⟨_, rfl, ffI fun h => hp10 h.1.1, hE⟩)

set_option maxRecDepth 100000 in
theorem viDepth_spec (t : Int) (w : World) :
    Fn Try.prog 34 #[VI t] w (fun v w' => v = VB (inR t 0 80) ∧ w = w') := by
  refine Fn_of Try.func34 rfl rfl (by kernel_rfl) rfl ?_
  refine W_seq ?_
  refine W_region ?_
  refine WL_q rfl (ev_assign rfl) ?_
  refine WL_nil ?_
  refine thenE_n ?_
  refine W_seq ?_
  refine W_region ?_
  refine WL_q rfl (ev_move rfl) ?_
  refine WL_m rfl (ev_call rfl (l1In_spec _ _ _ _)) ?_
  rintro _ _ ⟨rfl, rfl⟩
  refine WL_q rfl (ev_assign rfl) ?_
  refine WL_nil ?_
  refine thenE_n ?_
  refine W_ret ?_
  refine ret1 rfl rfl ?_
  exact ⟨rfl, rfl⟩

set_option maxRecDepth 100000 in
theorem isDepth_spec (t : Int) (w : World) :
    Fn Try.prog 39 #[VI t] w (fun v w' => v = VB (inR t 0 80) ∧ w = w') := by
  refine Fn_of Try.func39 rfl rfl (by kernel_rfl) rfl ?_
  refine W_seq ?_
  refine W_region ?_
  refine WL_q rfl (ev_assign rfl) ?_
  refine WL_nil ?_
  refine thenE_n ?_
  refine W_seq ?_
  refine W_region ?_
  refine WL_q rfl (ev_move rfl) ?_
  refine WL_m rfl (ev_call rfl (within_spec _ _ _ _)) ?_
  rintro _ _ ⟨rfl, rfl⟩
  refine WL_q rfl (ev_assign rfl) ?_
  refine WL_nil ?_
  refine thenE_n ?_
  refine W_ret ?_
  refine ret1 rfl rfl ?_
  exact ⟨rfl, rfl⟩

def VQ (A B : Net) (T : Nat) (v x : Int) : Prop := (vw (uni A B) T).getD v.toNat 0 = (vw (uni A B) T).getD (A.ends.length + x.toNat) 0
theorem vq_iff {X : List Int} {i j k : Nat} (hi : i < X.length) (hj : j < X.length) (e : j = k) : X[i] = X[j] ↔ X.getD i 0 = X.getD k 0 := by subst e; rw [getD_eq hi, getD_eq hj]
/-- Two networks, each with a node. -/
def N2 (A B : Net) (v x : Int) : Prop := (NOk A ∧ NOk B) ∧ HasNode A v ∧ HasNode B x
def TW (A B : Net) (v x : Int) : Prop := ∃ T, StableAt (uni A B) T ∧ VQ A B T v x
theorem tw_iff {A B : Net} {v x : Int} {T : Nat} (h : StableAt (uni A B) T) : TW A B v x ↔ VQ A B T v x := ⟨fun ⟨S, h1, h2⟩ => by rw [h.uniq h1]; exact h2, fun e => ⟨T, h, e⟩⟩
theorem stable_ex {A : Net} (hv : VOk A) : ∃ T, StableAt A T := by
  refine Classical.byContradiction fun hno => ?_
  have h : ∀ t, t ≤ vc A t ∧ ∀ s, s < t → vc A (s + 1) ≠ vc A s := by
    intro t
    induction t with
    | zero => exact ⟨Nat.zero_le _, fun s hs => absurd hs (Nat.not_lt_zero _)⟩
    | succ t ih =>
      have hne : vc A (t + 1) ≠ vc A t := fun e => hno ⟨t, e, ih.2, Nat.le_trans ih.1 (vc_le A t)⟩
      exact ⟨vc_grow hv ih.1 hne, fun s hs => by rcases Nat.lt_succ_iff_lt_or_eq.1 hs with h | h; exact ih.2 s h; subst h; exact hne⟩
  have h1 := (h (A.ends.length + 1)).1
  have h2 := vc_le A (A.ends.length + 1)
  omega
/-- The least number that does not meet G. -/
def LeastR (V : Prop) (G : Nat → Prop) (r : Int) (q : Bool) : Prop := (q = true ∧ V ∧ 0 ≤ r ∧ ¬ G r.toNat ∧ ∀ s, s < r.toNat → G s) ∨ (q = false ∧ r = 0 ∧ ¬ (V ∧ ∃ s, ¬ G s))
section
variable {V : Prop} {G : Nat → Prop} {r r' : Int} {q q' : Bool}
theorem LeastR.det (h : LeastR V G r q) (k : LeastR V G r' q') : r = r' ∧ q = q' := by
  rcases h with ⟨h1, h2, h3, h4, h5⟩ | ⟨h1, h2, h3⟩ <;> rcases k with ⟨k1, k2, k3, k4, k5⟩ | ⟨k1, k2, k3⟩
  · refine ⟨?_, h1.trans k1.symm⟩
    have : r.toNat = r'.toNat := by
      rcases Nat.lt_trichotomy r.toNat r'.toNat with h | h | h
      · exact absurd (k5 _ h) h4
      · exact h
      · exact absurd (h5 _ h) k4
    omega
  · exact absurd ⟨h2, _, h4⟩ k3
  · exact absurd ⟨k2, _, k4⟩ h3
  · exact ⟨h2.trans k2.symm, h1.trans k1.symm⟩
theorem LeastR.det1 (h : LeastR V G r q) (k : LeastR V G r' q') : r = r' := (h.det k).1
theorem LeastR.det2 (h : LeastR V G r q) (k : LeastR V G r' q') : q = q' := (h.det k).2
theorem LeastR.det3 (h : LeastR V G r q) (_k : LeastR V G r' q') : r = r := rfl
end
theorem vq_all {A B : Net} {v x : Int} (hu : VOk (uni A B)) {T i : Nat} (hT : StableAt (uni A B) T) (hi : T < i) (hJ : ∀ s, s < i → VQ A B s v x) : ∀ s, VQ A B s v x := by
  intro s
  by_cases h : s < i
  · exact hJ s h
  · have := hJ T hi
    unfold VQ at this ⊢
    rw [hT.fix hu (show T ≤ s by omega)]; exact this

set_option maxRecDepth 100000 in
theorem SameView_spec {loA hiA : Nat} (nA : NA) (A : Net) (v : Int) {loB hiB : Nat} (nB : NA) (B : Net) (x : Int) (t : Int) (w : World) (hA : IsNet loA hiA w nA A) (hhiA : hiA ≤ w.heap.size) (hnA : totN A ≤ 1048576) (hB : IsNet loB hiB w nB B) (hhiB : hiB ≤ w.heap.size) (hnB : totN B ≤ 1048576) :
    Fn Try.prog 13 #[netV nA A, VI v, netV nB B, VI x, VI t] w (fun o9 w' => ∃ b q, o9 = .tuple #[VB b, VB q] ∧ Two b q (N2 A B v x ∧ (0 ≤ t ∧ t ≤ 80)) (VQ A B t.toNat v x) ∧ Ext w w') := by
  have hqA := totL_len A.ends
  have hmA : totL A.ends + A.ids.length + A.inputs.length ≤ 1048576 := hnA
  have hqB := totL_len B.ends
  have hmB : totL B.ends + B.ids.length + B.inputs.length ≤ 1048576 := hnB
  have hE := Ext.refl w
  refine Fn_of Try.func13 rfl rfl (by kernel_rfl) rfl ?_
  refine W_seq ?_
  refine W_region ?_
  refine WL_m rfl (ev_box rfl) ?_
  rintro _ w5 ⟨rfl, hN5⟩
  have hz5 := hN5.size
  replace hE := hE.trans hN5.ext
  replace hA := hA.ext hN5.ext
  replace hB := hB.ext hN5.ext
  have hB5 : Blk w5 _ _ [_, _, _] := hN5.blk
  refine WL_m rfl (ev_box rfl) ?_
  rintro _ w7 ⟨rfl, hN7⟩
  have hz7 := hN7.size
  replace hE := hE.trans hN7.ext
  replace hA := hA.ext hN7.ext
  replace hB := hB.ext hN7.ext
  replace hB5 := hB5.ext hN7.ext
  have hB7 : Blk w7 _ _ [_, _, _] := hN7.blk
  refine WL_q rfl (ev_assign rfl) ?_
  refine WL_q rfl (ev_assign rfl) ?_
  refine WL_nil ?_
  refine thenE_n ?_
  refine W_seq ?_
  refine W_seq ?_
  refine W_region ?_
  refine WL_q rfl (ev_loads st31 sz31 rfl (cellsB hB5) rfl) ?_
  refine WL_q rfl (ev_move rfl) ?_
  refine WL_q rfl (ev_loads st31 sz31 rfl (cellsB hB7) rfl) ?_
  refine WL_q rfl (ev_move rfl) ?_
  refine WL_m rfl (ev_call rfl (nodesOk_spec _ A _ _ B _ _ hA (by omega) (by omega) hB (by omega) (by omega))) ?_
  rintro _ w17 ⟨b17, rfl, hb17, hE17⟩
  have hz17 := hE17.size
  replace hE := hE.trans hE17
  replace hA := hA.ext hE17
  replace hB := hB.ext hE17
  replace hB5 := hB5.ext hE17
  replace hB7 := hB7.ext hE17
  refine WL_q rfl (ev_not rfl) ?_
  refine WL_q rfl (ev_move rfl) ?_
  refine WL_splitv (t := 19) rfl (fun hg18 => ?_) (fun hg18 => ?_)
  · have hg17 := not_true hg18
    have hp17 := ttN hb17 hg17
    refine WL_no rfl rfl hg18 rfl ?_
    refine WL_no rfl rfl hg18 rfl ?_
    refine WL_no rfl rfl hg18 rfl ?_
    refine WL_q rfl (ev_pick_t rfl hg18 rfl) ?_
    refine WL_nil ?_
    refine thenE_n ?_
    refine W_cond_t rfl ?_
    refine W_seq ?_
    refine W_region ?_
    refine WL_q rfl (ev_assign rfl) ?_
    refine WL_q rfl (ev_assign rfl) ?_
    refine WL_nil ?_
    refine thenE_n ?_
    refine W_ret ?_
    refine thenE_r ?_
    refine ret2 rfl rfl rfl ?_
    first | (exact ⟨_, _, rfl, .no fun h => hp17 h.1, hE⟩) | (exact ⟨_, _, rfl, .no fun h => hp21 h.2, hE⟩) | (refine ⟨_, _, rfl, .yes ⟨hp17, hp21⟩ ?_, hE⟩; rw [decide_eq_true_iff]; exact vq_iff _ _ (by omega))
  · have hg17 := not_false hg18
    have hp17 := hb17.1 hg17
    refine WL_qg rfl rfl hg18 rfl (ev_move rfl) ?_
    refine WL_mg rfl rfl hg18 rfl (ev_call rfl (isDepth_spec _ _)) ?_
    rintro _ _ ⟨rfl, rfl⟩
    refine WL_qg rfl rfl hg18 rfl (ev_not rfl) ?_
    refine WL_q rfl (ev_pick_f rfl hg18 rfl) ?_
    refine WL_nil ?_
    refine thenE_n ?_
    refine W_cond rfl (fun hg22 => ?_) (fun hg22 => ?_)
    · have hg21 := not_true hg22
      have hp21 := inR_false.1 hg21
      refine W_seq ?_
      refine W_region ?_
      refine WL_q rfl (ev_assign rfl) ?_
      refine WL_q rfl (ev_assign rfl) ?_
      refine WL_nil ?_
      refine thenE_n ?_
      refine W_ret ?_
      refine thenE_r ?_
      refine ret2 rfl rfl rfl ?_
      first | (exact ⟨_, _, rfl, .no fun h => hp17 h.1, hE⟩) | (exact ⟨_, _, rfl, .no fun h => hp21 h.2, hE⟩) | (refine ⟨_, _, rfl, .yes ⟨hp17, hp21⟩ ?_, hE⟩; rw [decide_eq_true_iff]; exact vq_iff _ _ (by omega))
    · have hg21 := not_false hg22
      have hp21 := inR_true.1 hg21
      refine W_skip ?_
      refine thenE_n ?_
      refine W_seq ?_
      refine W_region ?_
      obtain ⟨⟨hkA, hkB⟩, hnv, hnx⟩ := (id hp17)
      have hnv1 := hnv.1
      have hnv2 := hnv.2
      have hnx1 := hnx.1
      have hnx2 := hnx.2
      have hndA := hkA.nodes
      have hndB := hkB.nodes
      have hu := uni_vok hkA hkB
      have huT := uni_tot hkA hkB
      have hupos := hu.pos
      have hul := uni_len A B
      refine WL_q rfl (ev_loads st31 sz31 rfl (cellsB hB5) rfl) ?_
      refine WL_q rfl (ev_loads st31 sz31 rfl (cellsB hB7) rfl) ?_
      refine WL_m rfl (ev_call rfl (joined_spec _ A _ B _ hA (by omega) (by omega) hB (by omega) (by omega) (by assumption) (by assumption))) ?_
      rintro _ w26 ⟨h26, rfl, hN26, hE26⟩
      have hz26 := hE26.size
      replace hE := hE.trans hE26
      replace hA := hA.ext hE26
      replace hB := hB.ext hE26
      replace hB5 := hB5.ext hE26
      replace hB7 := hB7.ext hE26
      refine WL_q rfl (ev_move rfl) ?_
      refine WL_m rfl (ev_call rfl (classesAt_spec _ (uni A B) _ _ hN26 (by omega) (by omega) (by assumption) (by omega))) ?_
      rintro _ w28 ⟨a28, c28, rfl, hO28, hE28⟩
      have hz28 := hE28.size
      replace hE := hE.trans hE28
      replace hA := hA.ext hE28
      replace hB := hB.ext hE28
      replace hB5 := hB5.ext hE28
      replace hB7 := hB7.ext hE28
      replace hN26 := hN26.ext hE28
      refine WL_q rfl (ev_assign rfl) ?_
      refine WL_nil ?_
      refine thenE_n ?_
      refine W_seq ?_
      refine W_drawE [(0, true), (1, true), (2, true), (3, true), (4, true), (5, true), (6, true), (7, true), (8, true), (9, true), (10, true), (11, true), (12, true), (13, true), (14, true)] mixed (by kernel_rfl) rfl (by kernel_rfl) ?_
      intro wd4 hEd4 hzd4
      replace hE := hE.trans hEd4
      replace hA := hA.ext hEd4
      replace hB := hB.ext hEd4
      replace hB5 := hB5.ext hEd4
      replace hB7 := hB7.ext hEd4
      replace hN26 := hN26.ext hEd4
      replace hO28 := hO28.ext hEd4
      have hDd4 := Ext.refl wd4
      have hwl := vw_len (uni A B) t.toNat
      refine PW_q rfl rfl (fun wq hq => ev_move rfl) ?_
      refine PW_q rfl rfl (fun wq hq => ev_move rfl) ?_
      refine PW_q rfl rfl (fun wq hq => ev_indexAddr Try.underlying23 sz3 rfl rfl ((own_i hO28).isSome (by omega)) (by omega) (by omega)) ?_
      have hc32 := (own_i hO28).cell (i := v.toNat) (by omega)
      refine PW_q rfl rfl (fun wq hq => ev_load one3 rfl (hq.cell (hc32))) ?_
      refine PW_q rfl rfl (fun wq hq => ev_move rfl) ?_
      refine PW_q rfl rfl (fun wq hq => ev_fieldAddr fo31_0 rfl) ?_
      refine PW_q rfl rfl (fun wq hq => ev_load one29 rfl (hq.cell (hB5.cell rfl))) ?_
      refine PW_q rfl rfl (fun wq hq => ev_len Try.underlying29 rfl) ?_
      refine PW_q rfl rfl (fun wq hq => ev_move rfl) ?_
      refine PW_q rfl rfl (fun wq hq => ev_add rfl rfl (by omega)) ?_
      refine PW_q rfl rfl (fun wq hq => ev_indexAddr Try.underlying23 sz3 rfl rfl ((own_i hO28).isSome (by omega)) (by omega) (by omega)) ?_
      have hc40 := (own_i hO28).cell (i := (((A.ends.length : Int) + x)).toNat) (by omega)
      refine PW_q rfl rfl (fun wq hq => ev_load one3 rfl (hq.cell (hc40))) ?_
      refine PW_q rfl rfl (fun wq hq => ev_eql rfl rfl) ?_
      refine PW_q rfl rfl (fun wq hq => ev_assign rfl) ?_
      refine PW_q rfl rfl (fun wq hq => ev_assign rfl) ?_
      refine PW_nil ?_
      refine thenE_n ?_
      refine W_ret ?_
      refine ret2 rfl rfl rfl ?_
      first | (exact ⟨_, _, rfl, .no fun h => hp17 h.1, hE⟩) | (exact ⟨_, _, rfl, .no fun h => hp21 h.2, hE⟩) | (refine ⟨_, _, rfl, .yes ⟨hp17, hp21⟩ ?_, hE⟩; rw [decide_eq_true_iff]; exact vq_iff _ _ (by omega))

set_option maxRecDepth 100000 in
theorem neNode_spec {loA hiA : Nat} (nA : NA) (A : Net) (v : Int) (w : World) (hA : IsNet loA hiA w nA A) (hhiA : hiA ≤ w.heap.size) (hnA : totN A ≤ 1048576) :
    Fn Try.prog 61 #[netV nA A, VI v] w (fun o9 w' => ∃ b, o9 = VB b ∧ (b = true ↔ (NOk A ∧ HasNode A v)) ∧ Ext w w') := by
  have hqA := totL_len A.ends
  have hmA : totL A.ends + A.ids.length + A.inputs.length ≤ 1048576 := hnA
  have hE := Ext.refl w
  refine Fn_of Try.func61 rfl rfl (by kernel_rfl) rfl ?_
  refine W_seq ?_
  refine W_region ?_
  refine WL_m rfl (ev_box rfl) ?_
  rintro _ w2 ⟨rfl, hN2⟩
  have hz2 := hN2.size
  replace hE := hE.trans hN2.ext
  replace hA := hA.ext hN2.ext
  have hB2 : Blk w2 _ _ [_, _, _] := hN2.blk
  refine WL_q rfl (ev_assign rfl) ?_
  refine WL_nil ?_
  refine thenE_n ?_
  refine W_seq ?_
  refine W_region ?_
  refine WL_q rfl (ev_loads st31 sz31 rfl (cellsB hB2) rfl) ?_
  refine WL_m rfl (ev_call rfl (neGood_spec _ A _ hA (by omega) (by omega))) ?_
  rintro _ w6 ⟨b6, rfl, hb6, hE6⟩
  have hz6 := hE6.size
  replace hE := hE.trans hE6
  replace hA := hA.ext hE6
  replace hB2 := hB2.ext hE6
  refine WL_q rfl (ev_move rfl) ?_
  refine WL_splitv (t := 7) rfl (fun hg6 => ?_) (fun hg6 => ?_)
  · have hp6 := hb6.1 hg6
    refine WL_qg rfl rfl hg6 rfl (ev_move rfl) ?_
    refine WL_qg rfl rfl hg6 rfl (ev_fieldAddr fo31_0 rfl) ?_
    refine WL_qg rfl rfl hg6 rfl (ev_load one29 rfl (hB2.cell rfl)) ?_
    refine WL_qg rfl rfl hg6 rfl (ev_len Try.underlying29 rfl) ?_
    refine WL_qg rfl rfl hg6 rfl (ev_sub rfl rfl (by omega)) ?_
    refine WL_mg rfl rfl hg6 rfl (ev_call rfl (l1In_spec _ _ _ _)) ?_
    rintro _ _ ⟨rfl, rfl⟩
    refine WL_q rfl (ev_pick_t rfl hg6 rfl) ?_
    refine WL_q rfl (ev_assign rfl) ?_
    refine WL_nil ?_
    refine thenE_n ?_
    refine W_ret ?_
    refine ret1 rfl rfl ?_
    first | (exact ⟨_, rfl, ⟨fun h => ⟨hp6, by have := inR_true.1 h; unfold HasNode; omega⟩, fun h => inR_true.2 (by have := h.2; unfold HasNode at this; omega)⟩, hE⟩) | (exact ⟨_, rfl, ffI fun h => hp6 h.1, hE⟩)
  · have hp6 := ttN hb6 hg6
    refine WL_no rfl rfl hg6 rfl ?_
    refine WL_no rfl rfl hg6 rfl ?_
    refine WL_no rfl rfl hg6 rfl ?_
    refine WL_no rfl rfl hg6 rfl ?_
    refine WL_no rfl rfl hg6 rfl ?_
    refine WL_no rfl rfl hg6 rfl ?_
    refine WL_q rfl (ev_pick_f rfl hg6 rfl) ?_
    refine WL_q rfl (ev_assign rfl) ?_
    refine WL_nil ?_
    refine thenE_n ?_
    refine W_ret ?_
    refine ret1 rfl rfl ?_
    first | (exact ⟨_, rfl, ⟨fun h => ⟨hp6, by have := inR_true.1 h; unfold HasNode; omega⟩, fun h => inR_true.2 (by have := h.2; unfold HasNode at this; omega)⟩, hE⟩) | (exact ⟨_, rfl, ffI fun h => hp6 h.1, hE⟩)

end Go.Proofs.Ytoeencgofelgoaa
