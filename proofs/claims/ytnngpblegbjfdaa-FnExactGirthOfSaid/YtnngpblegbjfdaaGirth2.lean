/- The walk of FnExactGirthOf, end. -/
import Derived.Test.YtnngpblegbjfdaaGirth
namespace Go.Proofs.Ytnngpblegbjfdaa
open Go Go.RowKit

/-- What GirthOf returns. -/
def GV (A : Net) (g : Int) (q : Bool) : Prop := (q = false ∧ g = 0 ∧ (NOk A → GMin (SA A.ends A.ends.length 0) 0)) ∨ (q = true ∧ NOk A ∧ 0 < g ∧ GMin (SA A.ends A.ends.length 0) g)
theorem GV.det1 {A : Net} {g g' : Int} {q q' : Bool} (h : GV A g q) (k : GV A g' q') : g = g' := by
  rcases h with ⟨_, e, h1⟩ | ⟨_, ho, hp, h1⟩ <;> rcases k with ⟨_, f, k1⟩ | ⟨_, ko, kp, k1⟩
  · rw [e, f]
  · have := (h1 ko).uniq k1 (fun _ _ => Iff.rfl); omega
  · have := h1.uniq (k1 ho) (fun _ _ => Iff.rfl); omega
  · exact h1.uniq k1 (fun _ _ => Iff.rfl)
theorem GV.det2 {A : Net} {g g' : Int} {q q' : Bool} (h : GV A g q) (k : GV A g' q') : q = q' := by
  have e := h.det1 k
  rcases h with ⟨a, e1, h1⟩ | ⟨a, ho, hp, h1⟩ <;> rcases k with ⟨b, f, k1⟩ | ⟨b, ko, kp, k1⟩
  · rw [a, b]
  · omega
  · omega
  · rw [a, b]
theorem GV.of {A : Net} {g : Int} (hkA : NOk A) (hS : GMin (SA A.ends A.ends.length 0) g) : GV A g (decide (0 < g)) := by
  by_cases hz : 0 < g
  · exact .inr ⟨decide_eq_true hz, hkA, hz, hS⟩
  · have hp := hS.pos
    have hg0 : g = 0 := by omega
    subst hg0
    exact .inl ⟨rfl, rfl, fun _ => hS⟩
theorem GMin.congr2 {S S' : Int → Prop} {o : Int} (h : GMin S o) (e : ∀ x, 0 < x → (S x ↔ S' x)) : GMin S' o := by
  rcases h with ⟨h1, h2⟩ | ⟨h1, h2, h3⟩
  · exact .inl ⟨h1, fun x hx => by
      by_cases hp : 0 < x
      · exact h2 x ((e x hp).2 hx)
      · omega⟩
  · exact .inr ⟨h1, (e o h1).1 h2, fun x hx hp => h3 x ((e x hp).2 hx) hp⟩
theorem kq_congr {q : Quad} {v i : Nat} : kq q v i = (!(decide ((v : Int) = q.1 ∧ (i : Int) = q.2.1)) && !(decide ((v : Int) = q.2.2.1 ∧ (i : Int) = q.2.2.2))) := rfl

set_option maxRecDepth 100000 in
theorem keep_1 (q : Quad) (v i b : Nat) (w : World) (hq9 : Blk w b 48 [VI q.1, VI q.2.1, VI q.2.2.1, VI q.2.2.2]) :
    Fn Try.prog 42 #[VI (v : Int), VI (i : Int), ptr b 0] w (fun o9 w' => o9 = VB (kq q v i) ∧ Ext w w') := by
  have hE := Ext.refl w
  refine Fn_of Try.func42 rfl rfl (by kernel_rfl) rfl ?_
  refine W_seq ?_
  refine W_region ?_
  refine WL_q rfl (ev_assign rfl) ?_
  refine WL_nil ?_
  refine thenE_n ?_
  refine W_seq ?_
  refine W_region ?_
  refine WL_q rfl (ev_move rfl) ?_
  refine WL_q rfl (ev_move rfl) ?_
  refine WL_q rfl (ev_build2 sn57_2 rfl rfl rfl rfl) ?_
  refine WL_q rfl (ev_fieldAddr fo48_0 rfl) ?_
  refine WL_q rfl (ev_load one3 rfl (hq9.cell rfl)) ?_
  refine WL_q rfl (ev_fieldAddr fo48_1 rfl) ?_
  refine WL_q rfl (ev_load one3 rfl (hq9.cell rfl)) ?_
  refine WL_q rfl (ev_build2 sn57_2 rfl rfl rfl rfl) ?_
  refine WL_q rfl (ev_neq_pair pr57 rfl rfl) ?_
  refine WL_q rfl (ev_move rfl) ?_
  refine WL_splitv (t := 15) rfl (fun hg14 => ?_) (fun hg14 => ?_)
  · have hp14 := of_decide_eq_true hg14
    refine WL_qg rfl rfl hg14 rfl (ev_move rfl) ?_
    refine WL_qg rfl rfl hg14 rfl (ev_move rfl) ?_
    refine WL_qg rfl rfl hg14 rfl (ev_build2 sn57_2 rfl rfl rfl rfl) ?_
    refine WL_qg rfl rfl hg14 rfl (ev_fieldAddr fo48_2 rfl) ?_
    refine WL_qg rfl rfl hg14 rfl (ev_load one3 rfl (hq9.cell rfl)) ?_
    refine WL_qg rfl rfl hg14 rfl (ev_fieldAddr fo48_3 rfl) ?_
    refine WL_qg rfl rfl hg14 rfl (ev_load one3 rfl (hq9.cell rfl)) ?_
    refine WL_qg rfl rfl hg14 rfl (ev_build2 sn57_2 rfl rfl rfl rfl) ?_
    refine WL_qg rfl rfl hg14 rfl (ev_neq_pair pr57 rfl rfl) ?_
    refine WL_q rfl (ev_pick_t rfl hg14 rfl) ?_
    refine WL_q rfl (ev_assign rfl) ?_
    refine WL_nil ?_
    refine thenE_n ?_
    refine W_ret ?_
    refine ret1 rfl rfl ?_
    first | (exact ⟨vb (by unfold kq; by_cases h1 : (v : Int) = q.1 ∧ (i : Int) = q.2.1 <;> by_cases h2 : (v : Int) = q.2.2.1 ∧ (i : Int) = q.2.2.2 <;> (simp_all <;> omega)), hE⟩)
  · have hp14 := of_decide_eq_false hg14
    refine WL_no rfl rfl hg14 rfl ?_
    refine WL_no rfl rfl hg14 rfl ?_
    refine WL_no rfl rfl hg14 rfl ?_
    refine WL_no rfl rfl hg14 rfl ?_
    refine WL_no rfl rfl hg14 rfl ?_
    refine WL_no rfl rfl hg14 rfl ?_
    refine WL_no rfl rfl hg14 rfl ?_
    refine WL_no rfl rfl hg14 rfl ?_
    refine WL_no rfl rfl hg14 rfl ?_
    refine WL_q rfl (ev_pick_f rfl hg14 rfl) ?_
    refine WL_q rfl (ev_assign rfl) ?_
    refine WL_nil ?_
    refine thenE_n ?_
    refine W_ret ?_
    refine ret1 rfl rfl ?_
    first | (exact ⟨vb (by unfold kq; by_cases h1 : (v : Int) = q.1 ∧ (i : Int) = q.2.1 <;> by_cases h2 : (v : Int) = q.2.2.1 ∧ (i : Int) = q.2.2.2 <;> (simp_all <;> omega)), hE⟩)

set_option maxHeartbeats 1000000 in
set_option maxRecDepth 100000 in
theorem shortC_spec {loA hiA : Nat} (nA : NA) (A : Net) (X_ k : Nat) (hx : X_ < A.ends.length) (hk2 : k < A.ends[X_].length) (w : World) (hA : IsNet loA hiA w nA A) (hhiA : hiA ≤ w.heap.size) (hnA : totN A ≤ 1048576) (hkA : NOk A) :
    Fn Try.prog 25 #[netV nA A, .agg #[VI (X_ : Int), VI (k : Int), VI A.ends[X_][k].1, VI A.ends[X_][k].2]] w (fun o9 w' => o9 = VI (avo A.ends X_ k + 1) ∧ Ext w w') := by
  have hqA := totL_len A.ends
  have hmA : totL A.ends + A.ids.length + A.inputs.length ≤ 1048576 := hnA
  have hndA := hkA.nodes
  have hk := hkA.endsOk
  have h6 := hkA.six
  have hidA : A.ids.length ≤ 40 := by rcases hkA.ids with h1 | h1; omega; have := h1.1; omega
  have hinA := hkA.inLen
  obtain ⟨he1, he2, he3, he4, he5⟩ := hkA.endOk hx hk2
  have hav := avo_rng hkA hx hk2
  have hE := Ext.refl w
  refine Fn_of Try.func25 rfl rfl (by kernel_rfl) rfl ?_
  refine W_seq ?_
  refine W_region ?_
  refine WL_m rfl (ev_box rfl) ?_
  rintro _ w2 ⟨rfl, hN2⟩
  have hz2 := hN2.size
  replace hE := hE.trans hN2.ext
  replace hA := hA.ext hN2.ext
  have hB2 : Blk w2 _ _ [_, _, _] := hN2.blk
  refine WL_m rfl (ev_box rfl) ?_
  rintro _ w3 ⟨rfl, hN3⟩
  have hz3 := hN3.size
  replace hE := hE.trans hN3.ext
  replace hA := hA.ext hN3.ext
  replace hB2 := hB2.ext hN3.ext
  have hB3 : Blk w3 _ _ [_, _, _, _] := hN3.blk
  refine WL_q rfl (ev_assign rfl) ?_
  refine WL_nil ?_
  refine thenE_n ?_
  refine W_seq ?_
  refine W_seq ?_
  refine W_region ?_
  refine WL_q rfl (ev_fieldAddr fo48_0 rfl) ?_
  refine WL_q rfl (ev_load one3 rfl (hB3.cell rfl)) ?_
  refine WL_q rfl (ev_fieldAddr fo48_2 rfl) ?_
  refine WL_q rfl (ev_load one3 rfl (hB3.cell rfl)) ?_
  refine WL_q rfl (ev_eql rfl rfl) ?_
  refine WL_nil ?_
  refine thenE_n ?_
  refine W_cond rfl (fun hg10 => ?_) (fun hg10 => ?_)
  · have hp10 := of_decide_eq_true hg10
    refine W_seq ?_
    refine W_region ?_
    refine WL_q rfl (ev_assign rfl) ?_
    refine WL_nil ?_
    refine thenE_n ?_
    refine W_ret ?_
    refine thenE_r ?_
    refine ret1 rfl rfl ?_
    first | (exact ⟨vi (by rw [avo_loop hkA hx hk2 (by assumption)]; rfl), hE⟩) | (exact ⟨vi (by rw [hge]), hE⟩)
  · have hp10 := of_decide_eq_false hg10
    refine W_skip ?_
    refine thenE_n ?_
    refine W_seq ?_
    refine W_drawT (X := Nat) (fun x => [(5, ptr x 0)]) (fun x w' => ∃ h17 N17, (w3.heap.size ≤ x ∧ x < w'.heap.size) ∧ Blk w' x 31 [.slice h17.a1 N17.ends.length h17.c1, .slice h17.a2 N17.ids.length h17.c2, .slice h17.a3 N17.inputs.length h17.c3] ∧ IsNet w3.heap.size w'.heap.size w' h17 N17 ∧ CutOf A.ends N17.ends (offE X_ k A.ends[X_][k]) ∧ totN N17 ≤ 1048576 ∧ Ext w3 w') w3.heap.size (by omega) (.q 0 (.q 1 (.q 2 (.q 3 (.q 5 (.b 4 (.b 6 (.a 7 (.a 8 .done)) 7 (.a 6 (.a 8 .done))) 7 (.a 4 (.a 6 (.a 8 .done))))))))) mixed (by kernel_rfl) rfl (by kernel_rfl) ?_ ?_
    · have hT := Ext.refl w3
      intro wd3 hEd3 hzd3
      replace hE := hE.trans hEd3
      replace hT := hT.trans hEd3
      replace hA := hA.ext hEd3
      replace hB2 := hB2.ext hEd3
      replace hB3 := hB3.ext hEd3
      have hDd3 := (Lo.refl (by omega) : Lo w3.heap.size wd3 wd3)
      refine PT_q rfl rfl (fun wq hq => ev_loads st31 sz31 rfl (cellsB (hB2.lo hq.1 (by omega))) rfl) ?_
      refine PT_q rfl rfl (fun wq hq => ev_fieldAddr fo31_0 rfl) ?_
      refine PT_q rfl rfl (fun wq hq => ev_load one29 rfl ((hB2.lo hq.1 (by omega)).cell rfl)) ?_
      refine PT_q rfl rfl (fun wq hq => ev_len Try.underlying29 rfl) ?_
      refine PT_q rfl rfl (fun wq hq => ev_makeFunc rfl rfl) ?_
      refine PT_b ?_ ?_
      · refine PA_m w3.heap.size rfl rfl (ev_call rfl (numbersTo_spec A.ends.length _ (by omega))) ?_
        rintro _ w15 ⟨a15, rfl, hI15, hE15⟩
        have hz15 := hE15.size
        replace hE := hE.trans hE15
        replace hT := hT.trans hE15
        replace hDd3 := hDd3.trans hE15
        replace hA := hA.ext hE15
        replace hB2 := hB2.ext hE15
        replace hB3 := hB3.ext hE15
        refine ⟨by omega, fun _ hx => ⟨hDd3.lo hx (by omega), trivial⟩, ?_⟩
        have hDd3 := (Lo.refl (by omega) : Lo w3.heap.size w15 w15)
        refine PT_b ?_ ?_
        · refine PA_m w3.heap.size rfl rfl (ev_call rfl (part_spec _ A a15 A.ends.length 42 [ptr w2.heap.size 0] (kq ((X_ : Int), (k : Int), A.ends[X_][k].1, A.ends[X_][k].2)) _ hA (by omega) (by omega) hI15 (by omega) hkA (by rw [kq_off]; exact fun v hv i hi h => kq_sym hkA hx hk2 hv hi h) (fun v hv i hi w1 hw => keep_1 ((X_ : Int), (k : Int), A.ends[X_][k].1, A.ends[X_][k].2) v i _ w1 (hB3.ext hw)))) ?_
          rintro _ w17 ⟨h17, N17, rfl, hN17, hC17, hn17, hE17⟩
          have hz17 := hE17.size
          replace hE := hE.trans hE17
          replace hT := hT.trans hE17
          replace hDd3 := hDd3.trans hE17
          replace hA := hA.ext hE17
          replace hB2 := hB2.ext hE17
          replace hB3 := hB3.ext hE17
          replace hI15 := hI15.ext hE17
          rw [kq_off] at hC17
          refine ⟨by omega, fun _ hx => ⟨hDd3.lo hx (by omega), trivial⟩, ?_⟩
          have hDd3 := (Lo.refl (by omega) : Lo w3.heap.size w17 w17)
          refine PT_a ?_
          refine PA_m w3.heap.size rfl rfl (ev_alloc zr31) ?_
          rintro _ w5 ⟨rfl, hN5⟩
          have hz5 := hN5.size
          replace hE := hE.trans hN5.ext
          replace hT := hT.trans hN5.ext
          replace hDd3 := hDd3.trans hN5.ext
          replace hA := hA.ext hN5.ext
          replace hB2 := hB2.ext hN5.ext
          replace hB3 := hB3.ext hN5.ext
          replace hI15 := hI15.ext hN5.ext
          replace hN17 := hN17.ext hN5.ext
          have hB5 : Blk w5 _ _ [_, _, _] := hN5.blk
          refine ⟨by omega, fun _ hx => ⟨hDd3.lo hx (by omega), trivial⟩, ?_⟩
          have hDd3 := (Lo.refl (by omega) : Lo w3.heap.size w5 w5)
          refine PT_a ?_
          refine PA_s w3.heap.size rfl (ev_stores sz31 rfl rfl rfl (by simp [Value.oneCell']) hB5 (by simp)) ?_
          rintro _ w3_8 hS3_8
          have hz3_8 := hS3_8.size
          replace hE := hE.sto hS3_8 (by omega)
          replace hT := hT.sto hS3_8 (by omega)
          replace hDd3 := hDd3.sto hS3_8 (by omega)
          replace hA := hA.sto hS3_8 (by omega)
          replace hB2 := hB2.sto hS3_8 (by omega)
          replace hB3 := hB3.sto hS3_8 (by omega)
          replace hI15 := hI15.sto hS3_8 (by omega)
          replace hN17 := hN17.sto hS3_8 (by omega)
          replace hB5 : Blk w3_8 _ _ [_, _, _] := hS3_8.blk
          refine ⟨by omega, fun _ hx => ⟨hDd3.lo hx (by omega), trivial⟩, ?_⟩
          have hDd3 := (Lo.refl (by omega) : Lo w3.heap.size w3_8 w3_8)
          exact PT_nil 8 hB5.num rfl ⟨rfl, trivial⟩ rfl ⟨h17, N17, ⟨(by (try dsimp only [Blk.num]); omega), (by (try dsimp only [Blk.num]); omega)⟩, hB5, hN17.mono2 (by (try dsimp only [Blk.num]); omega) (by (try dsimp only [Blk.num]); omega), hC17, hn17, hT⟩
        · refine PA_m w3.heap.size rfl rfl (ev_alloc zr31) ?_
          rintro _ w5 ⟨rfl, hN5⟩
          have hz5 := hN5.size
          replace hE := hE.trans hN5.ext
          replace hT := hT.trans hN5.ext
          replace hDd3 := hDd3.trans hN5.ext
          replace hA := hA.ext hN5.ext
          replace hB2 := hB2.ext hN5.ext
          replace hB3 := hB3.ext hN5.ext
          replace hI15 := hI15.ext hN5.ext
          have hB5 : Blk w5 _ _ [_, _, _] := hN5.blk
          refine ⟨by omega, fun _ hx => ⟨hDd3.lo hx (by omega), trivial⟩, ?_⟩
          have hDd3 := (Lo.refl (by omega) : Lo w3.heap.size w5 w5)
          refine PT_a ?_
          refine PA_m w3.heap.size rfl rfl (ev_call rfl (part_spec _ A a15 A.ends.length 42 [ptr w2.heap.size 0] (kq ((X_ : Int), (k : Int), A.ends[X_][k].1, A.ends[X_][k].2)) _ hA (by omega) (by omega) hI15 (by omega) hkA (by rw [kq_off]; exact fun v hv i hi h => kq_sym hkA hx hk2 hv hi h) (fun v hv i hi w1 hw => keep_1 ((X_ : Int), (k : Int), A.ends[X_][k].1, A.ends[X_][k].2) v i _ w1 (hB3.ext hw)))) ?_
          rintro _ w17 ⟨h17, N17, rfl, hN17, hC17, hn17, hE17⟩
          have hz17 := hE17.size
          replace hE := hE.trans hE17
          replace hT := hT.trans hE17
          replace hDd3 := hDd3.trans hE17
          replace hA := hA.ext hE17
          replace hB2 := hB2.ext hE17
          replace hB3 := hB3.ext hE17
          replace hI15 := hI15.ext hE17
          replace hB5 := hB5.ext hE17
          rw [kq_off] at hC17
          refine ⟨by omega, fun _ hx => ⟨hDd3.lo hx (by omega), trivial⟩, ?_⟩
          have hDd3 := (Lo.refl (by omega) : Lo w3.heap.size w17 w17)
          refine PT_a ?_
          refine PA_s w3.heap.size rfl (ev_stores sz31 rfl rfl rfl (by simp [Value.oneCell']) hB5 (by simp)) ?_
          rintro _ w3_8 hS3_8
          have hz3_8 := hS3_8.size
          replace hE := hE.sto hS3_8 (by omega)
          replace hT := hT.sto hS3_8 (by omega)
          replace hDd3 := hDd3.sto hS3_8 (by omega)
          replace hA := hA.sto hS3_8 (by omega)
          replace hB2 := hB2.sto hS3_8 (by omega)
          replace hB3 := hB3.sto hS3_8 (by omega)
          replace hI15 := hI15.sto hS3_8 (by omega)
          replace hN17 := hN17.sto hS3_8 (by omega)
          replace hB5 : Blk w3_8 _ _ [_, _, _] := hS3_8.blk
          refine ⟨by omega, fun _ hx => ⟨hDd3.lo hx (by omega), trivial⟩, ?_⟩
          have hDd3 := (Lo.refl (by omega) : Lo w3.heap.size w3_8 w3_8)
          exact PT_nil 8 hB5.num rfl ⟨rfl, trivial⟩ rfl ⟨h17, N17, ⟨(by (try dsimp only [Blk.num]); omega), (by (try dsimp only [Blk.num]); omega)⟩, hB5, hN17.mono2 (by (try dsimp only [Blk.num]); omega) (by (try dsimp only [Blk.num]); omega), hC17, hn17, hT⟩
      · refine PA_m w3.heap.size rfl rfl (ev_alloc zr31) ?_
        rintro _ w5 ⟨rfl, hN5⟩
        have hz5 := hN5.size
        replace hE := hE.trans hN5.ext
        replace hT := hT.trans hN5.ext
        replace hDd3 := hDd3.trans hN5.ext
        replace hA := hA.ext hN5.ext
        replace hB2 := hB2.ext hN5.ext
        replace hB3 := hB3.ext hN5.ext
        have hB5 : Blk w5 _ _ [_, _, _] := hN5.blk
        refine ⟨by omega, fun _ hx => ⟨hDd3.lo hx (by omega), trivial⟩, ?_⟩
        have hDd3 := (Lo.refl (by omega) : Lo w3.heap.size w5 w5)
        refine PT_a ?_
        refine PA_m w3.heap.size rfl rfl (ev_call rfl (numbersTo_spec A.ends.length _ (by omega))) ?_
        rintro _ w15 ⟨a15, rfl, hI15, hE15⟩
        have hz15 := hE15.size
        replace hE := hE.trans hE15
        replace hT := hT.trans hE15
        replace hDd3 := hDd3.trans hE15
        replace hA := hA.ext hE15
        replace hB2 := hB2.ext hE15
        replace hB3 := hB3.ext hE15
        replace hB5 := hB5.ext hE15
        refine ⟨by omega, fun _ hx => ⟨hDd3.lo hx (by omega), trivial⟩, ?_⟩
        have hDd3 := (Lo.refl (by omega) : Lo w3.heap.size w15 w15)
        refine PT_a ?_
        refine PA_m w3.heap.size rfl rfl (ev_call rfl (part_spec _ A a15 A.ends.length 42 [ptr w2.heap.size 0] (kq ((X_ : Int), (k : Int), A.ends[X_][k].1, A.ends[X_][k].2)) _ hA (by omega) (by omega) hI15 (by omega) hkA (by rw [kq_off]; exact fun v hv i hi h => kq_sym hkA hx hk2 hv hi h) (fun v hv i hi w1 hw => keep_1 ((X_ : Int), (k : Int), A.ends[X_][k].1, A.ends[X_][k].2) v i _ w1 (hB3.ext hw)))) ?_
        rintro _ w17 ⟨h17, N17, rfl, hN17, hC17, hn17, hE17⟩
        have hz17 := hE17.size
        replace hE := hE.trans hE17
        replace hT := hT.trans hE17
        replace hDd3 := hDd3.trans hE17
        replace hA := hA.ext hE17
        replace hB2 := hB2.ext hE17
        replace hB3 := hB3.ext hE17
        replace hB5 := hB5.ext hE17
        replace hI15 := hI15.ext hE17
        rw [kq_off] at hC17
        refine ⟨by omega, fun _ hx => ⟨hDd3.lo hx (by omega), trivial⟩, ?_⟩
        have hDd3 := (Lo.refl (by omega) : Lo w3.heap.size w17 w17)
        refine PT_a ?_
        refine PA_s w3.heap.size rfl (ev_stores sz31 rfl rfl rfl (by simp [Value.oneCell']) hB5 (by simp)) ?_
        rintro _ w3_8 hS3_8
        have hz3_8 := hS3_8.size
        replace hE := hE.sto hS3_8 (by omega)
        replace hT := hT.sto hS3_8 (by omega)
        replace hDd3 := hDd3.sto hS3_8 (by omega)
        replace hA := hA.sto hS3_8 (by omega)
        replace hB2 := hB2.sto hS3_8 (by omega)
        replace hB3 := hB3.sto hS3_8 (by omega)
        replace hI15 := hI15.sto hS3_8 (by omega)
        replace hN17 := hN17.sto hS3_8 (by omega)
        replace hB5 : Blk w3_8 _ _ [_, _, _] := hS3_8.blk
        refine ⟨by omega, fun _ hx => ⟨hDd3.lo hx (by omega), trivial⟩, ?_⟩
        have hDd3 := (Lo.refl (by omega) : Lo w3.heap.size w3_8 w3_8)
        exact PT_nil 8 hB5.num rfl ⟨rfl, trivial⟩ rfl ⟨h17, N17, ⟨(by (try dsimp only [Blk.num]); omega), (by (try dsimp only [Blk.num]); omega)⟩, hB5, hN17.mono2 (by (try dsimp only [Blk.num]); omega) (by (try dsimp only [Blk.num]); omega), hC17, hn17, hT⟩
    rintro b5 wt3 ⟨h17, N17, ⟨hx1, hx2⟩, hB5, hN17, hC17, hn17, hT⟩
    dsimp only [List.cons_append, List.nil_append]
    replace hE := hE.trans hT
    replace hA := hA.ext hT
    replace hB2 := hB2.ext hT
    replace hB3 := hB3.ext hT
    have hNl := hC17.len
    have hkN := cut_endsOk hkA.ports hC17
    have hbl := bfs_len hkN (v := (X_ : Int)) (by omega) (by omega)
    have hac := avo_cut hkA hx hk2 hC17
    refine thenE_n ?_
    refine W_seq ?_
    refine W_drawV wt3.heap.size wt3.heap.size 0 0 [(0, true), (1, true), (2, true), (4, true), (5, true), (3, false), (6, true), (7, true), (8, true), (9, true)] mixed (by kernel_rfl) rfl (by kernel_rfl) ?_
    intro wd4 hEd4 hzd4
    replace hE := hE.trans hEd4
    replace hA := hA.ext hEd4
    replace hB2 := hB2.ext hEd4
    replace hB3 := hB3.ext hEd4
    replace hB5 := hB5.ext hEd4
    replace hN17 := hN17.ext hEd4
    have hDd4 := (Rg.refl : Rg wt3.heap.size wt3.heap.size 0 0 wd4 wd4)
    refine PV_q rfl rfl (fun wq hq => ev_loads st31 sz31 rfl (cellsB (hB5.rg hq.1 (by omega))) rfl) ?_
    refine PV_q rfl rfl (fun wq hq => ev_fieldAddr fo48_0 rfl) ?_
    refine PV_q rfl rfl (fun wq hq => ev_load one3 rfl ((hB3.rg hq.1 (by omega)).cell rfl)) ?_
    refine PV_q rfl rfl (fun wq hq => ev_fieldAddr fo48_2 rfl) ?_
    refine PV_q rfl rfl (fun wq hq => ev_load one3 rfl ((hB3.rg hq.1 (by omega)).cell rfl)) ?_
    refine PV_m wt3.heap.size wt3.heap.size 0 0 rfl rfl (ev_call rfl (dist_spec _ N17 (X_ : Int) _ hN17 (by omega) (by omega) hkN (by omega))) ?_
    rintro _ w21 ⟨a21, c21, rfl, hO21, hE21⟩
    have hz21 := hE21.size
    replace hE := hE.trans hE21
    replace hDd4 := hDd4.trans hE21
    replace hA := hA.ext hE21
    replace hB2 := hB2.ext hE21
    replace hB3 := hB3.ext hE21
    replace hB5 := hB5.ext hE21
    replace hN17 := hN17.ext hE21
    have hge : (bfs N17.ends (X_ : Int))[A.ends[X_][k].1.toNat]'(by omega) = avo A.ends X_ k := by rw [← hac, getD_eq]
    refine ⟨fun _ hx => ⟨hDd4.rg hx (by omega), trivial⟩, ?_⟩
    have hDd4 := (Rg.refl : Rg wt3.heap.size wt3.heap.size 0 0 w21 w21)
    refine PV_q rfl rfl (fun wq hq => ev_indexAddr Try.underlying23 sz3 rfl rfl ((own_i hO21).isSome (by omega)) (by omega) (by omega)) ?_
    refine PV_q rfl rfl (fun wq hq => ev_load one3 rfl (((own_i hO21).rg hq.1 (by omega)).cellJ (i := A.ends[X_][k].1.toNat) (j := A.ends[X_][k].1.toNat) (by omega) (by omega))) ?_
    refine PV_q rfl rfl (fun wq hq => ev_add rfl rfl (by omega)) ?_
    refine PV_q rfl rfl (fun wq hq => ev_assign rfl) ?_
    refine PV_nil ?_
    refine thenE_n ?_
    refine W_ret ?_
    refine ret1 rfl rfl ?_
    first | (exact ⟨vi (by rw [avo_loop hkA hx hk2 (by assumption)]; rfl), hE⟩) | (exact ⟨vi (by rw [hge]), hE⟩)

theorem shortC_q {lo hi : Nat} (nA : NA) (A : Net) (q : Quad) (w : World) (hA : IsNet lo hi w nA A) (hhi : hi ≤ w.heap.size) (hn : totN A ≤ 1048576) (hkA : NOk A) {t : Nat} (ht : t < (edL A.ends).length) (hq : (edL A.ends)[t] = q) :
    Fn Try.prog 25 #[netV nA A, .agg #[VI q.1, VI q.2.1, VI q.2.2.1, VI q.2.2.2]] w (fun o9 w' => o9 = VI (avo A.ends q.1.toNat q.2.1.toNat + 1) ∧ Ext w w') := by
  obtain ⟨x, k, hx, hk, e⟩ := edL_portAt hkA ht
  rw [hq] at e
  subst e
  exact shortC_spec nA A x k hx hk w hA hhi hn hkA

set_option maxHeartbeats 1000000 in
set_option maxRecDepth 100000 in
theorem GirthOf_spec {loA hiA : Nat} (nA : NA) (A : Net) (w : World) (hA : IsNet loA hiA w nA A) (hhiA : hiA ≤ w.heap.size) (hnA : totN A ≤ 1048576) :
    Fn Try.prog 8 #[netV nA A] w (fun o9 w' => ∃ g q, o9 = .tuple #[VI g, VB q] ∧ GV A g q ∧ Ext w w') := by
  have hqA := totL_len A.ends
  have hmA : totL A.ends + A.ids.length + A.inputs.length ≤ 1048576 := hnA
  have hE := Ext.refl w
  refine Fn_of Try.func8 rfl rfl (by kernel_rfl) rfl ?_
  refine W_seq ?_
  refine W_region ?_
  refine WL_m rfl (ev_box rfl) ?_
  rintro _ w1 ⟨rfl, hN1⟩
  have hz1 := hN1.size
  replace hE := hE.trans hN1.ext
  replace hA := hA.ext hN1.ext
  have hB1 : Blk w1 _ _ [_, _, _] := hN1.blk
  refine WL_q rfl (ev_assign rfl) ?_
  refine WL_q rfl (ev_assign rfl) ?_
  refine WL_nil ?_
  refine thenE_n ?_
  refine W_seq ?_
  refine W_seq ?_
  refine W_region ?_
  refine WL_q rfl (ev_loads st31 sz31 rfl (cellsB hB1) rfl) ?_
  refine WL_m rfl (ev_call rfl (IsNetwork_spec _ A _ hA (by omega) (by omega))) ?_
  rintro _ w9 ⟨b9, rfl, hb9, hE9⟩
  have hz9 := hE9.size
  replace hE := hE.trans hE9
  replace hA := hA.ext hE9
  replace hB1 := hB1.ext hE9
  refine WL_q rfl (ev_not rfl) ?_
  refine WL_nil ?_
  refine thenE_n ?_
  refine W_cond rfl (fun hg10 => ?_) (fun hg10 => ?_)
  · have hg9 := not_true hg10
    have hp9 := ttN hb9 hg9
    refine W_seq ?_
    refine W_region ?_
    refine WL_q rfl (ev_assign rfl) ?_
    refine WL_q rfl (ev_assign rfl) ?_
    refine WL_nil ?_
    refine thenE_n ?_
    refine W_ret ?_
    refine thenE_r ?_
    refine ret2 rfl rfl rfl ?_
    first | (exact ⟨_, _, rfl, .inl ⟨rfl, rfl, fun h => absurd h hp9⟩, hE⟩) | (have hi9 : i = (edL A.ends).length := (by omega); subst hi9; have hS := hG.congr2 (EG_SA hkA); exact ⟨g, _, rfl, GV.of hkA hS, hE⟩)
  · have hg9 := not_false hg10
    have hp9 := hb9.1 hg9
    refine W_skip ?_
    refine thenE_n ?_
    refine W_seq ?_
    refine W_region ?_
    refine WL_q rfl (ev_assign rfl) ?_
    refine WL_nil ?_
    refine thenE_n ?_
    refine W_seq ?_
    refine W_seq ?_
    refine W_region ?_
    refine WL_q rfl (ev_loads st31 sz31 rfl (cellsB hB1) rfl) ?_
    have hkA := hp9
    have hndA := hkA.nodes
    have hk := hkA.endsOk
    have h6 := hkA.six
    have hidA : A.ids.length ≤ 40 := by rcases hkA.ids with h1 | h1; omega; have := h1.1; omega
    have hinA := hkA.inLen
    have hbd := edL_bd h6 (by omega)
    refine WL_m rfl (ev_call rfl (edges_spec _ A _ hA (by omega) (by omega) (by assumption) (by omega))) ?_
    rintro _ w12 ⟨a12, c12, rfl, hO12, hE12⟩
    have hz12 := hE12.size
    replace hE := hE.trans hE12
    replace hA := hA.ext hE12
    replace hB1 := hB1.ext hE12
    have hQ12 := hO12.quads rfl
    refine WL_q rfl (ev_len Try.underlying45 rfl) ?_
    refine WL_q rfl (ev_move rfl) ?_
    refine WL_nil ?_
    refine thenE_n ?_
    refine W_block ?_
    refine W_loopC (G := Nat × Int) [(1, _), (12, _), (13, _)] ((Subs.c rfl (Subs.c rfl (Subs.c rfl Subs.n)))) (fun ⟨i, g⟩ => [(4, VI g), (14, VI (i : Int))]) (fun ⟨i, g⟩ w' => Ext w12 w' ∧ (i ≤ (edL A.ends).length ∧ g ≤ 41) ∧ GMin (EG A.ends i) g) (fun g => (edL A.ends).length - g.1) (0, 0) ((Subs.c rfl (Subs.c (lkI rfl (by omega)) Subs.n))) (⟨Ext.refl _, ⟨⟨Nat.zero_le _, by omega⟩, .inl ⟨rfl, fun x hx => (EG_zero hx).elim⟩⟩⟩) ?_
    rintro ⟨i, g⟩ wL0 ⟨hRL0, ⟨hi', hg41⟩, hG⟩
    have hzL0 := hRL0.size
    replace hE := hE.trans hRL0
    replace hA := hA.ext hRL0
    replace hB1 := hB1.ext hRL0
    replace hQ12 := hQ12.ext hRL0
    have hgp := hG.pos
    refine W_seq ?_
    refine W_region ?_
    refine WL_q rfl (ev_lss rfl rfl) ?_
    refine WL_nil ?_
    refine thenE_n ?_
    refine W_seq ?_
    refine W_cond rfl (fun hg15 => ?_) (fun hg15 => ?_)
    · have hp15 := of_decide_eq_true hg15
      refine W_skip ?_
      refine thenE_n ?_
      refine W_seq ?_
      refine W_block ?_
      refine W_seq ?_
      refine W_region ?_
      have hlt : i < (edL A.ends).length := by omega
      refine WL_q rfl (ev_indexAddr Try.underlying45 sz48 rfl rfl (hQ12.isSome (by omega)) (by omega) (by omega)) ?_
      refine WL_q rfl (ev_loads st48 sz48 rfl (hQ12.cells (i := i) (by omega)) rfl) ?_
      refine WL_m rfl (ev_alloc zr48) ?_
      rintro _ w6 ⟨rfl, hN6⟩
      have hz6 := hN6.size
      replace hE := hE.trans hN6.ext
      replace hRL0 := hRL0.trans hN6.ext
      replace hA := hA.ext hN6.ext
      replace hB1 := hB1.ext hN6.ext
      replace hQ12 := hQ12.ext hN6.ext
      have hB6 : Blk w6 _ _ [_, _, _, _] := hN6.blk
      refine WL_s (ev_stores sz48 rfl rfl rfl (qCells_one _) hB6 (by exact Nat.le_refl 4)) ?_
      rintro _ w6_3 hS6_3
      have hz6_3 := hS6_3.size
      replace hE := hE.sto hS6_3 (by omega)
      replace hRL0 := hRL0.sto hS6_3 (by omega)
      replace hA := hA.sto hS6_3 (by omega)
      replace hB1 := hB1.sto hS6_3 (by omega)
      replace hQ12 := hQ12.sto hS6_3 (by omega)
      replace hB6 : Blk w6_3 _ _ [_, _, _, _] := hS6_3.blk
      refine WL_nil ?_
      refine thenE_n ?_
      refine W_seq ?_
      refine W_seq ?_
      refine W_region ?_
      refine WL_q rfl (ev_loads st48 sz48 rfl (cellsB hB6) rfl) ?_
      refine WL_m rfl (ev_call rfl (stub_spec (edL A.ends)[i] _)) ?_
      rintro _ w19 ⟨rfl, hE19⟩
      have hz19 := hE19.size
      replace hE := hE.trans hE19
      replace hRL0 := hRL0.trans hE19
      replace hA := hA.ext hE19
      replace hB1 := hB1.ext hE19
      replace hQ12 := hQ12.ext hE19
      replace hB6 := hB6.ext hE19
      refine WL_nil ?_
      refine thenE_n ?_
      refine W_cond rfl (fun hg19 => ?_) (fun hg19 => ?_)
      · refine W_exit ?_
        refine thenE_x ?_
        refine blockE_hit ?_
        refine thenE_n ?_
        refine W_region ?_
        refine WL_q rfl (ev_add rfl rfl (by omega)) ?_
        refine WL_q rfl (ev_move rfl) ?_
        refine WL_nil ?_
        refine thenE_n ?_
        exact ⟨(i + 1, g), (Subs.c rfl (Subs.c rfl (Subs.c rfl Subs.n))), (Subs.c rfl (Subs.c (lkI rfl (by omega)) Subs.n)), ⟨hRL0, ⟨⟨by omega, hg41⟩, hG.congr (EG_skip hlt (of_decide_eq_true hg19))⟩⟩, by first | omega | (dsimp only; omega)⟩
      · refine W_skip ?_
        refine thenE_n ?_
        refine W_seq ?_
        refine W_region ?_
        refine WL_q rfl (ev_loads st31 sz31 rfl (cellsB hB1) rfl) ?_
        refine WL_q rfl (ev_loads st48 sz48 rfl (cellsB hB6) rfl) ?_
        obtain ⟨x9, k9, hx9, hk9, e9⟩ := edL_portAt hkA hlt
        have hav := avo_rng hkA hx9 hk9
        have hav2 : avo A.ends (edL A.ends)[i].1.toNat (edL A.ends)[i].2.1.toNat = avo A.ends x9 k9 := by rw [e9]; simp only [Int.toNat_natCast]
        refine WL_m rfl (ev_call rfl (shortC_q _ A (edL A.ends)[i] _ hA (by omega) (by omega) hkA hlt rfl)) ?_
        rintro _ w22 ⟨rfl, hE22⟩
        have hz22 := hE22.size
        replace hE := hE.trans hE22
        replace hRL0 := hRL0.trans hE22
        replace hA := hA.ext hE22
        replace hB1 := hB1.ext hE22
        replace hQ12 := hQ12.ext hE22
        replace hB6 := hB6.ext hE22
        refine WL_q rfl (ev_assign rfl) ?_
        refine WL_nil ?_
        refine thenE_n ?_
        refine W_seq ?_
        refine W_region ?_
        refine WL_q rfl (ev_move rfl) ?_
        refine WL_q rfl (ev_gtr rfl rfl) ?_
        refine WL_q rfl (ev_move rfl) ?_
        refine WL_splitv (t := 25) rfl (fun hg24 => ?_) (fun hg24 => ?_)
        · have hp24 := of_decide_eq_true hg24
          refine WL_qg rfl rfl hg24 rfl (ev_move rfl) ?_
          refine WL_qg rfl rfl hg24 rfl (ev_eql rfl rfl) ?_
          refine WL_qg rfl rfl hg24 rfl (ev_move rfl) ?_
          refine WL_splitv (t := 28) rfl (fun hg27 => ?_) (fun hg27 => ?_)
          · have hp27 := of_decide_eq_true hg27
            refine WL_no rfl rfl hg27 rfl ?_
            refine WL_no rfl rfl hg27 rfl ?_
            refine WL_no rfl rfl hg27 rfl ?_
            refine WL_qg rfl rfl hg24 rfl (ev_pick_t rfl hg27 rfl) ?_
            refine WL_q rfl (ev_pick_t rfl hg24 rfl) ?_
            refine WL_nil ?_
            refine thenE_n ?_
            refine W_cond_t rfl ?_
            refine W_region ?_
            refine WL_q rfl (ev_move rfl) ?_
            refine WL_q rfl (ev_assign rfl) ?_
            refine WL_nil ?_
            refine blockE_n ?_
            refine thenE_n ?_
            refine W_region ?_
            refine WL_q rfl (ev_add rfl rfl (by omega)) ?_
            refine WL_q rfl (ev_move rfl) ?_
            refine WL_nil ?_
            refine thenE_n ?_
            exact ⟨(i + 1, avo A.ends (edL A.ends)[i].1.toNat (edL A.ends)[i].2.1.toNat + 1), (Subs.c rfl (Subs.c rfl (Subs.c rfl Subs.n))), (Subs.c rfl (Subs.c (lkI rfl (by omega)) Subs.n)), ⟨hRL0, ⟨⟨by omega, by omega⟩, hG.new (EG_put hlt (of_decide_eq_false hg19) rfl) (by omega) (by omega)⟩⟩, by first | omega | (dsimp only; omega)⟩
          · have hp27 := of_decide_eq_false hg27
            refine WL_qg rfl rfl hg27 rfl (ev_move rfl) ?_
            refine WL_qg rfl rfl hg27 rfl (ev_move rfl) ?_
            refine WL_qg rfl rfl hg27 rfl (ev_lss rfl rfl) ?_
            refine WL_qg rfl rfl hg24 rfl (ev_pick_f rfl hg27 rfl) ?_
            refine WL_q rfl (ev_pick_t rfl hg24 rfl) ?_
            refine WL_nil ?_
            refine thenE_n ?_
            refine W_cond rfl (fun hg31 => ?_) (fun hg31 => ?_)
            · have hp31 := of_decide_eq_true hg31
              refine W_region ?_
              refine WL_q rfl (ev_move rfl) ?_
              refine WL_q rfl (ev_assign rfl) ?_
              refine WL_nil ?_
              refine blockE_n ?_
              refine thenE_n ?_
              refine W_region ?_
              refine WL_q rfl (ev_add rfl rfl (by omega)) ?_
              refine WL_q rfl (ev_move rfl) ?_
              refine WL_nil ?_
              refine thenE_n ?_
              exact ⟨(i + 1, avo A.ends (edL A.ends)[i].1.toNat (edL A.ends)[i].2.1.toNat + 1), (Subs.c rfl (Subs.c rfl (Subs.c rfl Subs.n))), (Subs.c rfl (Subs.c (lkI rfl (by omega)) Subs.n)), ⟨hRL0, ⟨⟨by omega, by omega⟩, hG.new (EG_put hlt (of_decide_eq_false hg19) rfl) (by omega) (by omega)⟩⟩, by first | omega | (dsimp only; omega)⟩
            · have hp31 := of_decide_eq_false hg31
              refine W_skip ?_
              refine blockE_n ?_
              refine thenE_n ?_
              refine W_region ?_
              refine WL_q rfl (ev_add rfl rfl (by omega)) ?_
              refine WL_q rfl (ev_move rfl) ?_
              refine WL_nil ?_
              refine thenE_n ?_
              exact ⟨(i + 1, g), (Subs.c rfl (Subs.c rfl (Subs.c rfl Subs.n))), (Subs.c rfl (Subs.c (lkI rfl (by omega)) Subs.n)), ⟨hRL0, ⟨⟨by omega, hg41⟩, hG.old (EG_put hlt (of_decide_eq_false hg19) rfl) (by omega)⟩⟩, by first | omega | (dsimp only; omega)⟩
        · have hp24 := of_decide_eq_false hg24
          refine WL_no rfl rfl hg24 rfl ?_
          refine WL_no rfl rfl hg24 rfl ?_
          refine WL_no rfl rfl hg24 rfl ?_
          refine WL_nou rfl rfl rfl ?_
          refine WL_nou rfl rfl rfl ?_
          refine WL_nou rfl rfl rfl ?_
          refine WL_no rfl rfl hg24 rfl ?_
          refine WL_q rfl (ev_pick_f rfl hg24 rfl) ?_
          refine WL_nil ?_
          refine thenE_n ?_
          refine W_cond_f rfl ?_
          refine W_skip ?_
          refine blockE_n ?_
          refine thenE_n ?_
          refine W_region ?_
          refine WL_q rfl (ev_add rfl rfl (by omega)) ?_
          refine WL_q rfl (ev_move rfl) ?_
          refine WL_nil ?_
          refine thenE_n ?_
          exact ⟨(i + 1, g), (Subs.c rfl (Subs.c rfl (Subs.c rfl Subs.n))), (Subs.c rfl (Subs.c (lkI rfl (by omega)) Subs.n)), ⟨hRL0, ⟨⟨by omega, hg41⟩, hG.old (EG_put hlt (of_decide_eq_false hg19) rfl) (by omega)⟩⟩, by first | omega | (dsimp only; omega)⟩
    · have hp15 := of_decide_eq_false hg15
      refine W_exit ?_
      refine thenE_x ?_
      refine thenE_x ?_
      refine blockE_hit ?_
      refine thenE_n ?_
      refine W_seq ?_
      refine W_region ?_
      refine WL_q rfl (ev_move rfl) ?_
      refine WL_q rfl (ev_move rfl) ?_
      refine WL_q rfl (ev_gtr rfl rfl) ?_
      refine WL_q rfl (ev_assign rfl) ?_
      refine WL_q rfl (ev_assign rfl) ?_
      refine WL_nil ?_
      refine thenE_n ?_
      refine W_ret ?_
      refine ret2 rfl rfl rfl ?_
      first | (exact ⟨_, _, rfl, .inl ⟨rfl, rfl, fun h => absurd h hp9⟩, hE⟩) | (have hi9 : i = (edL A.ends).length := (by omega); subst hi9; have hS := hG.congr2 (EG_SA hkA); exact ⟨g, _, rfl, GV.of hkA hS, hE⟩)

set_option maxHeartbeats 1000000 in
set_option maxRecDepth 100000 in
theorem sGirthOf_spec {loA hiA : Nat} (nA : NA) (A : Net) (w : World) (hA : IsNet loA hiA w nA A) (hhiA : hiA ≤ w.heap.size) (hnA : totN A ≤ 1048576) :
    Fn Try.prog 6 #[netV nA A] w (fun o9 w' => ∃ g q, o9 = .tuple #[VI g, VB q] ∧ GV A g q ∧ Ext w w') := by
  have hqA := totL_len A.ends
  have hmA : totL A.ends + A.ids.length + A.inputs.length ≤ 1048576 := hnA
  have hE := Ext.refl w
  refine Fn_of Try.func6 rfl rfl (by kernel_rfl) rfl ?_
  refine W_seq ?_
  refine W_region ?_
  refine WL_m rfl (ev_box rfl) ?_
  rintro _ w1 ⟨rfl, hN1⟩
  have hz1 := hN1.size
  replace hE := hE.trans hN1.ext
  replace hA := hA.ext hN1.ext
  have hB1 : Blk w1 _ _ [_, _, _] := hN1.blk
  refine WL_q rfl (ev_assign rfl) ?_
  refine WL_q rfl (ev_assign rfl) ?_
  refine WL_nil ?_
  refine thenE_n ?_
  refine W_seq ?_
  refine W_seq ?_
  refine W_region ?_
  refine WL_q rfl (ev_loads st31 sz31 rfl (cellsB hB1) rfl) ?_
  refine WL_m rfl (ev_call rfl (neGood_spec _ A _ hA (by omega) (by omega))) ?_
  rintro _ w5 ⟨b5, rfl, hb5, hE5⟩
  have hz5 := hE5.size
  replace hE := hE.trans hE5
  replace hA := hA.ext hE5
  replace hB1 := hB1.ext hE5
  refine WL_q rfl (ev_not rfl) ?_
  refine WL_q rfl (ev_move rfl) ?_
  refine WL_splitv (t := 7) rfl (fun hg6 => ?_) (fun hg6 => ?_)
  · have hg5 := not_true hg6
    have hp5 := ttN hb5 hg5
    refine WL_no rfl rfl hg6 rfl ?_
    refine WL_no rfl rfl hg6 rfl ?_
    refine WL_no rfl rfl hg6 rfl ?_
    refine WL_q rfl (ev_pick_t rfl hg6 rfl) ?_
    refine WL_nil ?_
    refine thenE_n ?_
    refine W_cond_t rfl ?_
    refine W_seq ?_
    refine W_region ?_
    refine WL_q rfl (ev_assign rfl) ?_
    refine WL_q rfl (ev_assign rfl) ?_
    refine WL_nil ?_
    refine thenE_n ?_
    refine W_ret ?_
    refine thenE_r ?_
    refine ret2 rfl rfl rfl ?_
    first | (exact ⟨_, _, rfl, .inl ⟨rfl, rfl, fun h => absurd h hp5⟩, hE⟩) | (exact ⟨_, _, rfl, .inl ⟨rfl, rfl, fun _ => hp10 ▸ hg9⟩, hE⟩) | (exact ⟨g13, _, rfl, .inr ⟨rfl, hp5, by have := hg9.uniq hg13 (fun _ _ => Iff.rfl); have := hg13.pos; omega, hg13⟩, hE⟩)
  · have hg5 := not_false hg6
    have hp5 := hb5.1 hg5
    refine WL_qg rfl rfl hg6 rfl (ev_loads st31 sz31 rfl (cellsB hB1) rfl) ?_
    refine WL_mg rfl rfl hg6 rfl (ev_call rfl (meGirth_spec _ A _ hA (by omega) (by omega) (by assumption))) ?_
    rintro _ w9 ⟨g9, rfl, hg9, hE9⟩
    have hz9 := hE9.size
    replace hE := hE.trans hE9
    replace hA := hA.ext hE9
    replace hB1 := hB1.ext hE9
    refine WL_qg rfl rfl hg6 rfl (ev_eql rfl rfl) ?_
    refine WL_q rfl (ev_pick_f rfl hg6 rfl) ?_
    refine WL_nil ?_
    refine thenE_n ?_
    refine W_cond rfl (fun hg10 => ?_) (fun hg10 => ?_)
    · have hp10 := of_decide_eq_true hg10
      refine W_seq ?_
      refine W_region ?_
      refine WL_q rfl (ev_assign rfl) ?_
      refine WL_q rfl (ev_assign rfl) ?_
      refine WL_nil ?_
      refine thenE_n ?_
      refine W_ret ?_
      refine thenE_r ?_
      refine ret2 rfl rfl rfl ?_
      first | (exact ⟨_, _, rfl, .inl ⟨rfl, rfl, fun h => absurd h hp5⟩, hE⟩) | (exact ⟨_, _, rfl, .inl ⟨rfl, rfl, fun _ => hp10 ▸ hg9⟩, hE⟩) | (exact ⟨g13, _, rfl, .inr ⟨rfl, hp5, by have := hg9.uniq hg13 (fun _ _ => Iff.rfl); have := hg13.pos; omega, hg13⟩, hE⟩)
    · have hp10 := of_decide_eq_false hg10
      refine W_skip ?_
      refine thenE_n ?_
      refine W_seq ?_
      refine W_region ?_
      refine WL_q rfl (ev_loads st31 sz31 rfl (cellsB hB1) rfl) ?_
      refine WL_m rfl (ev_call rfl (meGirth_spec _ A _ hA (by omega) (by omega) (by assumption))) ?_
      rintro _ w13 ⟨g13, rfl, hg13, hE13⟩
      have hz13 := hE13.size
      replace hE := hE.trans hE13
      replace hA := hA.ext hE13
      replace hB1 := hB1.ext hE13
      refine WL_q rfl (ev_assign rfl) ?_
      refine WL_q rfl (ev_assign rfl) ?_
      refine WL_nil ?_
      refine thenE_n ?_
      refine W_ret ?_
      refine ret2 rfl rfl rfl ?_
      first | (exact ⟨_, _, rfl, .inl ⟨rfl, rfl, fun h => absurd h hp5⟩, hE⟩) | (exact ⟨_, _, rfl, .inl ⟨rfl, rfl, fun _ => hp10 ▸ hg9⟩, hE⟩) | (exact ⟨g13, _, rfl, .inr ⟨rfl, hp5, by have := hg9.uniq hg13 (fun _ _ => Iff.rfl); have := hg13.pos; omega, hg13⟩, hE⟩)

set_option maxRecDepth 100000 in
theorem law_GirthOf (nA : NA) (A : Net) (w : World) (hA : IsNet 0 w.heap.size w nA A) (hsA : SmN A) :
    Fn Try.prog 3 #[netV nA A] w (fun v w' => v = VB true ∧ Ext w w') := by
  have hE := Ext.refl w
  refine Fn_of Try.func3 rfl rfl (by kernel_rfl) rfl ?_
  refine W_seq ?_
  refine W_region ?_
  refine WL_m rfl (ev_box rfl) ?_
  rintro _ w1 ⟨rfl, hN1⟩
  have hz1 := hN1.size
  replace hE := hE.trans hN1.ext
  replace hA := hA.ext hN1.ext
  have hB1 : Blk w1 _ _ [_, _, _] := hN1.blk
  refine WL_q rfl (ev_assign rfl) ?_
  refine WL_nil ?_
  refine thenE_n ?_
  refine W_seq ?_
  refine W_region ?_
  refine WL_q rfl (ev_assign rfl) ?_
  refine WL_nil ?_
  refine thenE_n ?_
  refine W_seq ?_
  refine W_region ?_
  refine WL_q rfl (ev_loads st25 sz25 rfl (cellsB hB1) rfl) ?_
  refine WL_q rfl (ev_move rfl) ?_
  refine WL_m rfl (ev_call rfl (szNetwork_spec _ A _ _ hA (by omega) hsA)) ?_
  rintro _ w11 ⟨r11, rfl, hE11, hr11⟩
  have hz11 := hE11.size
  replace hE := hE.trans hE11
  replace hA := hA.ext hE11
  replace hB1 := hB1.ext hE11
  refine WL_q rfl (ev_assign rfl) ?_
  refine WL_nil ?_
  refine thenE_n ?_
  refine W_seq ?_
  refine W_seq ?_
  refine W_region ?_
  refine WL_q rfl (ev_move rfl) ?_
  refine WL_q rfl (ev_lss rfl rfl) ?_
  refine WL_nil ?_
  refine thenE_n ?_
  refine W_cond rfl (fun hg13 => ?_) (fun hg13 => ?_)
  · have hp13 := of_decide_eq_true hg13
    refine W_seq ?_
    refine W_region ?_
    refine WL_q rfl (ev_assign rfl) ?_
    refine WL_nil ?_
    refine thenE_n ?_
    refine W_ret ?_
    refine thenE_r ?_
    refine ret1 rfl rfl ?_
    first | (exact ⟨rfl, hE⟩) | (exact (tfX hg13).elim) | (exact (decF hg13).elim) | (exfalso; omega)
  · have hp13 := of_decide_eq_false hg13
    refine W_skip ?_
    refine thenE_n ?_
    refine W_seq ?_
    refine W_region ?_
    refine WL_q rfl (ev_loads st25 sz25 rfl (cellsB hB1) rfl) ?_
    refine WL_m rfl (ev_call rfl (toNetwork_spec _ A _ hA (by omega) (by omega))) ?_
    rintro _ w16 ⟨h16, rfl, hF16, hE16⟩
    have hz16 := hE16.size
    replace hE := hE.trans hE16
    replace hA := hA.ext hE16
    replace hB1 := hB1.ext hE16
    have hN16 := hF16.is
    refine WL_m rfl (ev_call rfl (sGirthOf_spec _ A _ hN16 (by omega) (by omega))) ?_
    rintro _ w17 ⟨g17, q17, rfl, hr17, hE17⟩
    have hz17 := hE17.size
    replace hE := hE.trans hE17
    replace hA := hA.ext hE17
    replace hB1 := hB1.ext hE17
    replace hF16 := hF16.ext hE17
    replace hN16 := hN16.ext hE17
    refine WL_q rfl (ev_move rfl) ?_
    refine WL_q rfl (ev_extract rfl rfl) ?_
    refine WL_q rfl (ev_extract rfl rfl) ?_
    refine WL_q rfl (ev_assign rfl) ?_
    refine WL_q rfl (ev_assign rfl) ?_
    refine WL_nil ?_
    refine thenE_n ?_
    refine W_seq ?_
    refine W_region ?_
    refine WL_q rfl (ev_loads st25 sz25 rfl (cellsB hB1) rfl) ?_
    refine WL_m rfl (ev_call rfl (toNetwork_spec _ A _ hA (by omega) (by omega))) ?_
    rintro _ w21 ⟨h21, rfl, hF21, hE21⟩
    have hz21 := hE21.size
    replace hE := hE.trans hE21
    replace hA := hA.ext hE21
    replace hB1 := hB1.ext hE21
    replace hF16 := hF16.ext hE21
    replace hN16 := hN16.ext hE21
    have hN21 := hF21.is
    refine WL_m rfl (ev_alloc zr31) ?_
    rintro _ w6 ⟨rfl, hN6⟩
    have hz6 := hN6.size
    replace hE := hE.trans hN6.ext
    replace hA := hA.ext hN6.ext
    replace hB1 := hB1.ext hN6.ext
    replace hF16 := hF16.ext hN6.ext
    replace hN16 := hN16.ext hN6.ext
    replace hF21 := hF21.ext hN6.ext
    replace hN21 := hN21.ext hN6.ext
    have hB6 : Blk w6 _ _ [_, _, _] := hN6.blk
    refine WL_s (ev_stores sz31 rfl rfl rfl (by simp [Value.oneCell']) hB6 (by simp)) ?_
    rintro _ w6_3 hS6_3
    have hz6_3 := hS6_3.size
    replace hE := hE.sto hS6_3 (by omega)
    replace hA := hA.sto hS6_3 (by omega)
    replace hB1 := hB1.sto hS6_3 (by omega)
    replace hF16 := hF16.sto hS6_3 (by omega)
    replace hN16 := hN16.sto hS6_3 (by omega)
    replace hF21 := hF21.sto hS6_3 (by omega)
    replace hN21 := hN21.sto hS6_3 (by omega)
    replace hB6 : Blk w6_3 _ _ [_, _, _] := hS6_3.blk
    refine WL_nil ?_
    refine thenE_n ?_
    refine W_seq ?_
    refine W_region ?_
    refine WL_q rfl (ev_loads st31 sz31 rfl (cellsB hB6) rfl) ?_
    refine WL_m rfl (ev_call rfl (GirthOf_spec _ A _ hN21 (by omega) (by omega))) ?_
    rintro _ w24 ⟨g24, q24, rfl, hr24, hE24⟩
    have hz24 := hE24.size
    replace hE := hE.trans hE24
    replace hA := hA.ext hE24
    replace hB1 := hB1.ext hE24
    replace hF16 := hF16.ext hE24
    replace hN16 := hN16.ext hE24
    replace hF21 := hF21.ext hE24
    replace hN21 := hN21.ext hE24
    replace hB6 := hB6.ext hE24
    refine WL_q rfl (ev_move rfl) ?_
    refine WL_q rfl (ev_extract rfl rfl) ?_
    refine WL_q rfl (ev_extract rfl rfl) ?_
    refine WL_q rfl (ev_assign rfl) ?_
    refine WL_q rfl (ev_assign rfl) ?_
    refine WL_nil ?_
    refine thenE_n ?_
    refine W_seq ?_
    refine W_seq ?_
    refine W_region ?_
    refine WL_q rfl (ev_move rfl) ?_
    refine WL_q rfl (ev_move rfl) ?_
    refine WL_q rfl (ev_neq rfl rfl) ?_
    refine WL_q rfl (ev_move rfl) ?_
    refine WL_splitv (t := 30) rfl (fun hg29 => ?_) (fun hg29 => ?_)
    · have hp29 := of_decide_eq_true hg29
      refine WL_no rfl rfl hg29 rfl ?_
      refine WL_no rfl rfl hg29 rfl ?_
      refine WL_no rfl rfl hg29 rfl ?_
      refine WL_q rfl (ev_pick_t rfl hg29 rfl) ?_
      refine WL_nil ?_
      refine thenE_n ?_
      refine W_cond_t rfl ?_
      refine W_seq ?_
      refine W_region ?_
      refine WL_q rfl (ev_assign rfl) ?_
      refine WL_nil ?_
      refine thenE_n ?_
      refine W_ret ?_
      refine thenE_r ?_
      refine ret1 rfl rfl ?_
      first | (exact ⟨rfl, hE⟩) | (exact (bneE hg29 (hr24.det1 hr17)).elim) | (exact absurd (hr24.det1 hr17) hp29) | (exact absurd (hr24.det1 hr17) (of_decide_eq_false hg29)) | (exact (bneE hg29 (hr24.det2 hr17)).elim) | (exact absurd (hr24.det2 hr17) hp29) | (exact absurd (hr24.det2 hr17) (of_decide_eq_false hg29)) | (exact (bneE hg29 (hr24.det3 hr17)).elim) | (exact absurd (hr24.det3 hr17) hp29) | (exact absurd (hr24.det3 hr17) (of_decide_eq_false hg29)) | (exact (tfX hg29).elim) | (exact (decF hg29).elim) | (exfalso; omega)
    · have hp29 := of_decide_eq_false hg29
      refine WL_qg rfl rfl hg29 rfl (ev_move rfl) ?_
      refine WL_qg rfl rfl hg29 rfl (ev_move rfl) ?_
      refine WL_qg rfl rfl hg29 rfl (ev_neq_b Try.underlying4 rfl rfl) ?_
      refine WL_q rfl (ev_pick_f rfl hg29 rfl) ?_
      refine WL_nil ?_
      refine thenE_n ?_
      refine W_cond rfl (fun hg33 => ?_) (fun hg33 => ?_)
      · refine W_seq ?_
        refine W_region ?_
        refine WL_q rfl (ev_assign rfl) ?_
        refine WL_nil ?_
        refine thenE_n ?_
        refine W_ret ?_
        refine thenE_r ?_
        refine ret1 rfl rfl ?_
        first | (exact ⟨rfl, hE⟩) | (exact (bneE hg33 (hr24.det1 hr17)).elim) | (exact absurd (hr24.det1 hr17) hp33) | (exact absurd (hr24.det1 hr17) (of_decide_eq_false hg33)) | (exact (bneE hg33 (hr24.det2 hr17)).elim) | (exact absurd (hr24.det2 hr17) hp33) | (exact absurd (hr24.det2 hr17) (of_decide_eq_false hg33)) | (exact (bneE hg33 (hr24.det3 hr17)).elim) | (exact absurd (hr24.det3 hr17) hp33) | (exact absurd (hr24.det3 hr17) (of_decide_eq_false hg33)) | (exact (tfX hg33).elim) | (exact (decF hg33).elim) | (exfalso; omega)
      · refine W_skip ?_
        refine thenE_n ?_
        refine W_seq ?_
        refine W_seq ?_
        refine W_drawE [(0, true), (1, true), (2, false), (3, false), (4, true)] mixed (by kernel_rfl) rfl (by kernel_rfl) ?_
        intro wd10 hEd10 hzd10
        replace hE := hE.trans hEd10
        replace hA := hA.ext hEd10
        replace hB1 := hB1.ext hEd10
        replace hF16 := hF16.ext hEd10
        replace hN16 := hN16.ext hEd10
        replace hF21 := hF21.ext hEd10
        replace hN21 := hN21.ext hEd10
        replace hB6 := hB6.ext hEd10
        have hDd10 := Ext.refl wd10
        refine PW_q rfl rfl (fun wq hq => ev_loads st31 sz31 rfl (cellsB (hq.blk hB6)) rfl) ?_
        refine PW_q rfl rfl (fun wq hq => ev_loads st25 sz25 rfl (cellsB (hq.blk hB1)) rfl) ?_
        refine PW_m rfl rfl (ev_call rfl (toNetwork_spec _ A _ hA (by omega) (by omega))) ?_
        rintro _ w37 ⟨h37, rfl, hF37, hE37⟩
        have hz37 := hE37.size
        replace hE := hE.trans hE37
        replace hDd10 := hDd10.trans hE37
        have hN37 := hF37.is
        refine ⟨hDd10, ?_⟩
        have hA_3 := hA.ext hDd10
        have hB1_3 := hB1.ext hDd10
        have hF16_3 := hF16.ext hDd10
        have hN16_3 := hN16.ext hDd10
        have hF21_3 := hF21.ext hDd10
        have hN21_3 := hN21.ext hDd10
        have hB6_3 := hB6.ext hDd10
        refine PW_m rfl rfl (ev_call rfl (eqNetwork_spec _ _ A _ hN21_3 hN37 (by omega))) ?_
        rintro _ w38 ⟨rfl, hE38⟩
        have hz38 := hE38.size
        replace hE := hE.trans hE38
        replace hDd10 := hDd10.trans hE38
        replace hF37 := hF37.ext hE38
        replace hN37 := hN37.ext hE38
        refine ⟨hDd10, ?_⟩
        refine PW_q rfl rfl (fun wq hq => ev_not rfl) ?_
        replace hA := hA.ext hDd10
        replace hB1 := hB1.ext hDd10
        replace hF16 := hF16.ext hDd10
        replace hN16 := hN16.ext hDd10
        replace hF21 := hF21.ext hDd10
        replace hN21 := hN21.ext hDd10
        replace hB6 := hB6.ext hDd10
        refine PW_nil ?_
        refine thenE_n ?_
        refine W_cond rfl (fun hg39 => ?_) (fun hg39 => ?_)
        · have hg38 := not_true hg39
          refine W_seq ?_
          refine W_region ?_
          refine WL_q rfl (ev_assign rfl) ?_
          refine WL_nil ?_
          refine thenE_n ?_
          refine W_ret ?_
          refine thenE_r ?_
          refine ret1 rfl rfl ?_
          first | (exact ⟨rfl, hE⟩) | (exact (bneE hg38 (hr24.det1 hr17)).elim) | (exact absurd (hr24.det1 hr17) hp38) | (exact absurd (hr24.det1 hr17) (of_decide_eq_false hg38)) | (exact (bneE hg38 (hr24.det2 hr17)).elim) | (exact absurd (hr24.det2 hr17) hp38) | (exact absurd (hr24.det2 hr17) (of_decide_eq_false hg38)) | (exact (bneE hg38 (hr24.det3 hr17)).elim) | (exact absurd (hr24.det3 hr17) hp38) | (exact absurd (hr24.det3 hr17) (of_decide_eq_false hg38)) | (exact (tfX hg38).elim) | (exact (decF hg38).elim) | (exfalso; omega)
        · have hg38 := not_false hg39
          refine W_skip ?_
          refine thenE_n ?_
          refine W_seq ?_
          refine W_region ?_
          refine WL_q rfl (ev_assign rfl) ?_
          refine WL_nil ?_
          refine thenE_n ?_
          refine W_ret ?_
          refine ret1 rfl rfl ?_
          first | (exact ⟨rfl, hE⟩) | (exact (bneE hg38 (hr24.det1 hr17)).elim) | (exact absurd (hr24.det1 hr17) hp38) | (exact absurd (hr24.det1 hr17) (of_decide_eq_false hg38)) | (exact (bneE hg38 (hr24.det2 hr17)).elim) | (exact absurd (hr24.det2 hr17) hp38) | (exact absurd (hr24.det2 hr17) (of_decide_eq_false hg38)) | (exact (bneE hg38 (hr24.det3 hr17)).elim) | (exact absurd (hr24.det3 hr17) hp38) | (exact absurd (hr24.det3 hr17) (of_decide_eq_false hg38)) | (exact (tfX hg38).elim) | (exact (decF hg38).elim) | (exfalso; omega)

end Go.Proofs.Ytnngpblegbjfdaa
