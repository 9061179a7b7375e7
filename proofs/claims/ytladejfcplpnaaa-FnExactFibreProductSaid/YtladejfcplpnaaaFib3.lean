/- Contract of spec.FibreProduct; the walk of FnExactFibreProduct. -/
import Derived.Test.YtladejfcplpnaaaFib2
namespace Go.Proofs.Ytladejfcplpnaaa
open Go Go.RowKit

theorem NR.sto2 {α : Type} {f : α → List Value} {sz l hi : Nat} {w w' : World} {E T : TypeId} {b i m j : Nat} {xss : List (List α)} {g : Nat} {Ts : TypeId} {ds : List Value} (h : NR f sz l hi w E T b i m j xss) (k : Sto w w' g Ts ds) (hb : g ≠ b) (hl : g < l ∨ hi ≤ g) : NR f sz l hi w' E T b i m j xss := by
  obtain ⟨vs, h0, h1, h2, h3, h4⟩ := h; exact ⟨vs, h0, h1.keep k.keep (by show b ≠ g; omega), h2.keep k.keep fun q _ _ => by show q ≠ g; omega, h3, h4⟩
def numT (A B : Net) (f g : List Int) : List (List Int) := (List.range A.ends.length).map fun i => ntR f g B.ends.length i B.ends.length
section
variable {A B : Net} {f g : List Int}
theorem numT_len : (numT A B f g).length = A.ends.length := by simp [numT]
theorem numT_row {i : Nat} (h : i < (numT A B f g).length) : (numT A B f g)[i].length = B.ends.length := by simp [numT, ntR]
theorem numT_at {i k : Nat} (h : i < (numT A B f g).length) (h2 : k < (numT A B f g)[i].length) : (numT A B f g)[i][k] = if eqv f g i k then (num f g B.ends.length i k : Int) else -1 := by simp [numT, ntR]
theorem numT_get {i k : Nat} (h : i < (numT A B f g).length) (h2 : k < (numT A B f g)[i].length) (e : eqv f g i k = true) : (numT A B f g)[i][k] = (num f g B.ends.length i k : Int) := by rw [numT_at, if_pos e]
theorem nt_neg {e : Bool} {n : Nat} {x : Int} (h : x = if e then (n : Int) else -1) (hx : x < 0) : e = false := by cases e <;> simp_all; omega
theorem nt_pos {e : Bool} {n : Nat} {x : Int} (h : x = if e then (n : Int) else -1) (hx : ¬ x < 0) : e = true ∧ x = (n : Int) := by cases e <;> simp_all
def fibR (A B : Net) (f g : List Int) (t : Nat) : List (Int × Int) := prow A B f g ((PLf A B f g).getD t (0, 0))
theorem fibR_at {v w : Nat} (hv : v < A.ends.length) (hw : w < B.ends.length) (h : eqv f g v w = true) : fibR A B f g (pl f g B.ends.length v w).length = prow A B f g ((v : Int), (w : Int)) := by
  obtain ⟨hl, e⟩ := num_at hv hw h
  unfold fibR
  rw [show (pl f g B.ends.length v w).length = num f g B.ends.length v w from rfl, getD_eq hl, e]
theorem fibR_all : (List.range (PLf A B f g).length).map (fibR A B f g) = (fibP A B f g).ends := by
  refine List.ext_getElem (by simp [fibP]) fun t h1 h2 => ?_
  have ht : t < (PLf A B f g).length := by simpa using h1
  simp only [List.getElem_map, List.getElem_range, fibR, fibP, getD_eq ht]
def fiL (L : List Int) (i : Nat) : List Int := L.take i ++ List.replicate (L.length - i) 0
theorem fiL_len {L : List Int} {i : Nat} (h : i ≤ L.length) : (fiL L i).length = L.length := by simp [fiL]; omega
theorem fiL_zero (L : List Int) : fiL L 0 = List.replicate L.length 0 := by simp [fiL]
theorem fiL_full {L : List Int} {i : Nat} (h : L.length ≤ i) : fiL L i = L := by simp [fiL, List.take_of_length_le h, Nat.sub_eq_zero_of_le h]
theorem fiL_put {L : List Int} {i : Nat} {x : Int} (h : i < L.length) (hx : x = L[i]) : (fiL L i).set i x = fiL L (i + 1) := by
  subst hx
  unfold fiL
  rw [List.set_append_right _ _ (by simp; omega), show i - (L.take i).length = 0 by simp; omega, show L.length - i = (L.length - (i + 1)) + 1 by omega, List.replicate_succ, List.set_cons_zero, ← List.take_append_getElem h, List.append_assoc]
  rfl
theorem fibI_at {v w : Nat} (hv : v < A.ends.length) (hw : w < B.ends.length) (h : eqv f g v w = true) (hl : (pl f g B.ends.length v w).length < (fibP A B f g).inputs.length) (hv2 : v < A.inputs.length) : A.inputs[v] = (fibP A B f g).inputs[(pl f g B.ends.length v w).length] := by
  obtain ⟨hl2, e⟩ := num_at hv hw h
  have e2 : (PLf A B f g)[(pl f g B.ends.length v w).length]'hl2 = ((v : Int), (w : Int)) := e
  have e3 : ((PLf A B f g).map fun p => A.inputs.getD p.1.toNat 0)[(pl f g B.ends.length v w).length]'(by rw [List.length_map]; exact hl2) = A.inputs.getD ((PLf A B f g)[(pl f g B.ends.length v w).length]'hl2).1.toNat 0 := List.getElem_map ..
  refine Eq.trans ?_ e3.symm
  rw [e2]
  simp only [Int.toNat_natCast]
  exact (getD_eq hv2).symm
theorem fib_lens : (fibP A B f g).ends.length = (PLf A B f g).length ∧ (fibP A B f g).inputs.length = (PLf A B f g).length := by simp [fibP]
theorem pl_lt {v w : Nat} (hv : v < A.ends.length) (hw : w < B.ends.length) (h : eqv f g v w = true) : (pl f g B.ends.length v w).length < (PLf A B f g).length := (num_at hv hw h).1
end

set_option maxHeartbeats 1000000 in
set_option maxRecDepth 100000 in
theorem sFibreProduct_spec {loA hiA : Nat} (nA : NA) (A : Net) {loB hiB : Nat} (nB : NA) (B : Net) {loD hiD : Nat} (nD : NA) (D : Net) {loff hiff : Nat} (aff : Option Addr) (cff : Nat) (ff : List Int) {logg higg : Nat} (agg : Option Addr) (cgg : Nat) (gg : List Int) (w : World) (hA : IsNet loA hiA w nA A) (hhiA : hiA ≤ w.heap.size) (hnA : totN A ≤ 1048576) (hB : IsNet loB hiB w nB B) (hhiB : hiB ≤ w.heap.size) (hnB : totN B ≤ 1048576) (hD : IsNet loD hiD w nD D) (hhiD : hiD ≤ w.heap.size) (hnD : totN D ≤ 1048576) (hff : Ints loff hiff w aff cff ff) (hhiff : hiff ≤ w.heap.size) (hnff : ff.length ≤ 1048576) (hgg : Ints logg higg w agg cgg gg) (hhigg : higg ≤ w.heap.size) (hngg : gg.length ≤ 1048576) :
    Fn Try.prog 17 #[netV nA A, netV nB B, netV nD D, .slice aff ff.length cff, .slice agg gg.length cgg] w (fun o9 w' => ∃ h' U q, o9 = .tuple #[netV h' U, VB q] ∧ RV (⟨[], [], []⟩ : Net) (opt (HF A B D ff gg ∧ 1 ≤ (PLf A B ff gg).length ∧ (PLf A B ff gg).length ≤ 40) (fibP A B ff gg)) U q ∧ IsNet w.heap.size w'.heap.size w' h' U ∧ totN U ≤ 1048576 ∧ Ext w w') := by
  have hqA := totL_len A.ends
  have hmA : totL A.ends + A.ids.length + A.inputs.length ≤ 1048576 := hnA
  have hqB := totL_len B.ends
  have hmB : totL B.ends + B.ids.length + B.inputs.length ≤ 1048576 := hnB
  have hqD := totL_len D.ends
  have hmD : totL D.ends + D.ids.length + D.inputs.length ≤ 1048576 := hnD
  have hE := Ext.refl w
  refine Fn_of Try.func17 rfl rfl (by kernel_rfl) rfl ?_
  refine W_seq ?_
  refine W_region ?_
  refine WL_m rfl (ev_box rfl) ?_
  rintro _ w5 ⟨rfl, hN5⟩
  have hz5 := hN5.size
  replace hE := hE.trans hN5.ext
  replace hA := hA.ext hN5.ext
  replace hB := hB.ext hN5.ext
  replace hD := hD.ext hN5.ext
  replace hff := hff.ext hN5.ext
  replace hgg := hgg.ext hN5.ext
  have hB5 : Blk w5 _ _ [_, _, _] := hN5.blk
  refine WL_m rfl (ev_box rfl) ?_
  rintro _ w6 ⟨rfl, hN6⟩
  have hz6 := hN6.size
  replace hE := hE.trans hN6.ext
  replace hA := hA.ext hN6.ext
  replace hB := hB.ext hN6.ext
  replace hD := hD.ext hN6.ext
  replace hff := hff.ext hN6.ext
  replace hgg := hgg.ext hN6.ext
  replace hB5 := hB5.ext hN6.ext
  have hB6 : Blk w6 _ _ [_, _, _] := hN6.blk
  refine WL_m rfl (ev_box rfl) ?_
  rintro _ w7 ⟨rfl, hN7⟩
  have hz7 := hN7.size
  replace hE := hE.trans hN7.ext
  replace hA := hA.ext hN7.ext
  replace hB := hB.ext hN7.ext
  replace hD := hD.ext hN7.ext
  replace hff := hff.ext hN7.ext
  replace hgg := hgg.ext hN7.ext
  replace hB5 := hB5.ext hN7.ext
  replace hB6 := hB6.ext hN7.ext
  have hB7 : Blk w7 _ _ [_, _, _] := hN7.blk
  refine WL_m rfl (ev_alloc zr31) ?_
  rintro _ w10 ⟨rfl, hN10⟩
  have hz10 := hN10.size
  replace hE := hE.trans hN10.ext
  replace hA := hA.ext hN10.ext
  replace hB := hB.ext hN10.ext
  replace hD := hD.ext hN10.ext
  replace hff := hff.ext hN10.ext
  replace hgg := hgg.ext hN10.ext
  replace hB5 := hB5.ext hN10.ext
  replace hB6 := hB6.ext hN10.ext
  replace hB7 := hB7.ext hN10.ext
  have hB10 : Blk w10 _ _ [_, _, _] := hN10.blk
  refine WL_q rfl (ev_assign rfl) ?_
  refine WL_nil ?_
  refine thenE_n ?_
  refine W_seq ?_
  refine W_seq ?_
  refine W_region ?_
  refine WL_q rfl (ev_loads st31 sz31 rfl (cellsB hB5) rfl) ?_
  refine WL_q rfl (ev_loads st31 sz31 rfl (cellsB hB7) rfl) ?_
  refine WL_q rfl (ev_move rfl) ?_
  refine WL_m rfl (ev_call rfl (coAsked_spec _ _ A D _ _ ff _ hA hD hff (by omega) (by omega) (by omega) (by omega) (by omega) (by omega))) ?_
  rintro _ w26 ⟨b26, rfl, hb26, hE26⟩
  have hz26 := hE26.size
  replace hE := hE.trans hE26
  replace hA := hA.ext hE26
  replace hB := hB.ext hE26
  replace hD := hD.ext hE26
  replace hff := hff.ext hE26
  replace hgg := hgg.ext hE26
  replace hB5 := hB5.ext hE26
  replace hB6 := hB6.ext hE26
  replace hB7 := hB7.ext hE26
  replace hB10 := hB10.ext hE26
  refine WL_q rfl (ev_not rfl) ?_
  refine WL_q rfl (ev_move rfl) ?_
  refine WL_splitv (t := 28) rfl (fun hg27 => ?_) (fun hg27 => ?_)
  · have hg26 := not_true hg27
    have hp26 := ttN hb26 hg26
    refine WL_no rfl rfl hg27 rfl ?_
    refine WL_no rfl rfl hg27 rfl ?_
    refine WL_no rfl rfl hg27 rfl ?_
    refine WL_no rfl rfl hg27 rfl ?_
    refine WL_no rfl rfl hg27 rfl ?_
    refine WL_q rfl (ev_pick_t rfl hg27 rfl) ?_
    refine WL_nil ?_
    refine thenE_n ?_
    refine W_cond_t rfl ?_
    refine W_seq ?_
    refine W_region ?_
    refine WL_q rfl (ev_buildP0 sn31_3 zr31 ) ?_
    refine WL_s (ev_stores sz31 rfl rfl rfl (by simp [Value.oneCell']) hB10 (by simp)) ?_
    rintro _ w2_1 hS2_1
    have hz2_1 := hS2_1.size
    replace hE := hE.sto hS2_1 (by omega)
    replace hA := hA.sto hS2_1 (by omega)
    replace hB := hB.sto hS2_1 (by omega)
    replace hD := hD.sto hS2_1 (by omega)
    replace hff := hff.sto hS2_1 (by omega)
    replace hgg := hgg.sto hS2_1 (by omega)
    replace hB5 := hB5.sto hS2_1 (by omega)
    replace hB6 := hB6.sto hS2_1 (by omega)
    replace hB7 := hB7.sto hS2_1 (by omega)
    replace hB10 : Blk w2_1 _ _ [_, _, _] := hS2_1.blk
    refine WL_q rfl (ev_assign rfl) ?_
    refine WL_nil ?_
    refine thenE_n ?_
    refine W_ret ?_
    refine thenE_r ?_
    refine retc2 rfl rfl st31 sz31 (cellsB hB10) rfl rfl ?_
    first | (exact ⟨⟨none, 0, none, 0, none, 0⟩, ⟨[], [], []⟩, _, rfl, .no (fun h => hp26 ⟨h.1.a, h.1.d, h.1.pf⟩), ⟨Nest.nil, Ints.nil, Ints.nil⟩, by decide, hE⟩) | (exact ⟨⟨none, 0, none, 0, none, 0⟩, ⟨[], [], []⟩, _, rfl, .no (fun h => hp32 ⟨h.1.b, h.1.d, h.1.pg⟩), ⟨Nest.nil, Ints.nil, Ints.nil⟩, by decide, hE⟩) | (exact ⟨⟨none, 0, none, 0, none, 0⟩, ⟨[], [], []⟩, _, rfl, .no (fun h => tf hg84 (inR_true.2 (by have h7 : 1 ≤ (ftN ff gg B.ends.length A.ends.length).length := h.2.1; have h8 : (ftN ff gg B.ends.length A.ends.length).length ≤ 40 := h.2.2; omega))), ⟨Nest.nil, Ints.nil, Ints.nil⟩, by decide, hE⟩) | (obtain ⟨vs, hbl, hBk, hOA, hvm, hvj⟩ := hR; have h7 := inR_true.1 hg84; exact ⟨⟨some ⟨b88, 0, none⟩, (ftN ff gg B.ends.length A.ends.length).length, none, 0, some ⟨d88, 0, none⟩, (ftN ff gg B.ends.length A.ends.length).length⟩, fibP A B ff gg, _, by simp [netV, fibP], .yes ⟨hH, by show 1 ≤ (ftN ff gg B.ends.length A.ends.length).length; omega, by show (ftN ff gg B.ends.length A.ends.length).length ≤ 40; omega⟩ rfl, net_blocks (hOA.prows.mono (by omega) (by omega)) hBk ⟨by omega, by omega⟩ hBi ⟨by omega, by omega⟩ rfl fib_lens.1 fib_lens.2, fib_tot hH, hE⟩)
  · have hg26 := not_false hg27
    have hp26 := hb26.1 hg26
    refine WL_qg rfl rfl hg27 rfl (ev_loads st31 sz31 rfl (cellsB hB6) rfl) ?_
    refine WL_qg rfl rfl hg27 rfl (ev_loads st31 sz31 rfl (cellsB hB7) rfl) ?_
    refine WL_qg rfl rfl hg27 rfl (ev_move rfl) ?_
    refine WL_mg rfl rfl hg27 rfl (ev_call rfl (coAsked_spec _ _ B D _ _ gg _ hB hD hgg (by omega) (by omega) (by omega) (by omega) (by omega) (by omega))) ?_
    rintro _ w32 ⟨b32, rfl, hb32, hE32⟩
    have hz32 := hE32.size
    replace hE := hE.trans hE32
    replace hA := hA.ext hE32
    replace hB := hB.ext hE32
    replace hD := hD.ext hE32
    replace hff := hff.ext hE32
    replace hgg := hgg.ext hE32
    replace hB5 := hB5.ext hE32
    replace hB6 := hB6.ext hE32
    replace hB7 := hB7.ext hE32
    replace hB10 := hB10.ext hE32
    refine WL_qg rfl rfl hg27 rfl (ev_not rfl) ?_
    refine WL_q rfl (ev_pick_f rfl hg27 rfl) ?_
    refine WL_nil ?_
    refine thenE_n ?_
    refine W_cond rfl (fun hg33 => ?_) (fun hg33 => ?_)
    · have hg32 := not_true hg33
      have hp32 := ttN hb32 hg32
      refine W_seq ?_
      refine W_region ?_
      refine WL_q rfl (ev_buildP0 sn31_3 zr31 ) ?_
      refine WL_s (ev_stores sz31 rfl rfl rfl (by simp [Value.oneCell']) hB10 (by simp)) ?_
      rintro _ w2_1 hS2_1
      have hz2_1 := hS2_1.size
      replace hE := hE.sto hS2_1 (by omega)
      replace hA := hA.sto hS2_1 (by omega)
      replace hB := hB.sto hS2_1 (by omega)
      replace hD := hD.sto hS2_1 (by omega)
      replace hff := hff.sto hS2_1 (by omega)
      replace hgg := hgg.sto hS2_1 (by omega)
      replace hB5 := hB5.sto hS2_1 (by omega)
      replace hB6 := hB6.sto hS2_1 (by omega)
      replace hB7 := hB7.sto hS2_1 (by omega)
      replace hB10 : Blk w2_1 _ _ [_, _, _] := hS2_1.blk
      refine WL_q rfl (ev_assign rfl) ?_
      refine WL_nil ?_
      refine thenE_n ?_
      refine W_ret ?_
      refine thenE_r ?_
      refine retc2 rfl rfl st31 sz31 (cellsB hB10) rfl rfl ?_
      first | (exact ⟨⟨none, 0, none, 0, none, 0⟩, ⟨[], [], []⟩, _, rfl, .no (fun h => hp26 ⟨h.1.a, h.1.d, h.1.pf⟩), ⟨Nest.nil, Ints.nil, Ints.nil⟩, by decide, hE⟩) | (exact ⟨⟨none, 0, none, 0, none, 0⟩, ⟨[], [], []⟩, _, rfl, .no (fun h => hp32 ⟨h.1.b, h.1.d, h.1.pg⟩), ⟨Nest.nil, Ints.nil, Ints.nil⟩, by decide, hE⟩) | (exact ⟨⟨none, 0, none, 0, none, 0⟩, ⟨[], [], []⟩, _, rfl, .no (fun h => tf hg84 (inR_true.2 (by have h7 : 1 ≤ (ftN ff gg B.ends.length A.ends.length).length := h.2.1; have h8 : (ftN ff gg B.ends.length A.ends.length).length ≤ 40 := h.2.2; omega))), ⟨Nest.nil, Ints.nil, Ints.nil⟩, by decide, hE⟩) | (obtain ⟨vs, hbl, hBk, hOA, hvm, hvj⟩ := hR; have h7 := inR_true.1 hg84; exact ⟨⟨some ⟨b88, 0, none⟩, (ftN ff gg B.ends.length A.ends.length).length, none, 0, some ⟨d88, 0, none⟩, (ftN ff gg B.ends.length A.ends.length).length⟩, fibP A B ff gg, _, by simp [netV, fibP], .yes ⟨hH, by show 1 ≤ (ftN ff gg B.ends.length A.ends.length).length; omega, by show (ftN ff gg B.ends.length A.ends.length).length ≤ 40; omega⟩ rfl, net_blocks (hOA.prows.mono (by omega) (by omega)) hBk ⟨by omega, by omega⟩ hBi ⟨by omega, by omega⟩ rfl fib_lens.1 fib_lens.2, fib_tot hH, hE⟩)
    · have hg32 := not_false hg33
      have hp32 := hb32.1 hg32
      refine W_skip ?_
      refine thenE_n ?_
      refine W_seq ?_
      refine W_region ?_
      have hH : HF A B D ff gg := ⟨hp26.1, hp32.1, hp26.2.1, hp26.2.2, hp32.2.2⟩
      have hnA9 := hH.a.nodes
      have hnB9 := hH.b.nodes
      have hfl := hH.lenf
      have hgl := hH.leng
      have hPl9 : (ftN ff gg B.ends.length A.ends.length).length ≤ 1600 := PLf_le hH
      have hinA := hH.a.inLen
      have h6 := hH.a.six
      have h6B := hH.b.six
      have hkA := hH.a.endsOk
      have hkB := hH.b.endsOk
      refine WL_q rfl (ev_fieldAddr fo31_0 rfl) ?_
      refine WL_q rfl (ev_load one29 rfl (hB5.cell rfl)) ?_
      refine WL_q rfl (ev_len Try.underlying29 rfl) ?_
      refine WL_m rfl (ev_makeN Try.underlying26 el23 rfl rfl rfl (by omega) (by omega)) ?_
      rintro _ w39 ⟨rfl, hN39⟩
      have hz39 := hN39.size
      replace hE := hE.trans hN39.ext
      replace hA := hA.ext hN39.ext
      replace hB := hB.ext hN39.ext
      replace hD := hD.ext hN39.ext
      replace hff := hff.ext hN39.ext
      replace hgg := hgg.ext hN39.ext
      replace hB5 := hB5.ext hN39.ext
      replace hB6 := hB6.ext hN39.ext
      replace hB7 := hB7.ext hN39.ext
      replace hB10 := hB10.ext hN39.ext
      have hB39 := hN39.blk
      have hR0 : NR intF 1 (w32.heap.size + 1) w39.heap.size w39 3 23 w32.heap.size 0 0 0 (mixF (fun i => ntR ff gg B.ends.length i B.ends.length) (List.replicate A.ends.length []) 0) := by rw [mixF_zero]; exact NR.made hB39 (by omega)
      refine WL_q rfl (ev_assign rfl) ?_
      refine WL_nil ?_
      refine thenE_n ?_
      refine W_seq ?_
      refine W_region ?_
      refine WL_q rfl (ev_assign rfl) ?_
      refine WL_nil ?_
      refine thenE_n ?_
      refine W_seq ?_
      refine W_seq ?_
      refine W_region ?_
      refine WL_q rfl (ev_move rfl) ?_
      refine WL_q rfl (ev_len Try.underlying26 rfl) ?_
      refine WL_q rfl (ev_move rfl) ?_
      refine WL_nil ?_
      refine thenE_n ?_
      refine W_block ?_
      refine W_loopC (G := Nat) [(3, _), (4, _), (5, _), (6, _), (10, _), (12, _), (41, _)] ((Subs.c rfl (Subs.c rfl (Subs.c rfl (Subs.c rfl (Subs.c rfl (Subs.c rfl (Subs.c rfl Subs.n)))))))) (fun i => [(13, VI ((ftN ff gg B.ends.length i).length : Int)), (42, VI (i : Int))]) (fun i w' => KX (w32.heap.size) w39 w' ∧ i ≤ A.ends.length ∧ NR intF 1 (w32.heap.size + 1) w'.heap.size w' 3 23 w32.heap.size i 0 i (mixF (fun i => ntR ff gg B.ends.length i B.ends.length) (List.replicate A.ends.length []) i)) (fun i => A.ends.length - i) 0 ((Subs.c rfl (Subs.c (lkI rfl (by omega)) Subs.n))) (⟨KX.refl _ _, ⟨Nat.zero_le _, hR0⟩⟩) ?_
      rintro i wL0 ⟨hRL0, hi', hR⟩
      have hzL0 := hRL0.size
      replace hA := hA.kx hRL0 (by omega)
      replace hB := hB.kx hRL0 (by omega)
      replace hD := hD.kx hRL0 (by omega)
      replace hff := hff.kx hRL0 (by omega)
      replace hgg := hgg.kx hRL0 (by omega)
      replace hB5 := hB5.kx hRL0 (by omega)
      replace hB6 := hB6.kx hRL0 (by omega)
      replace hB7 := hB7.kx hRL0 (by omega)
      replace hB10 := hB10.kx hRL0 (by omega)
      replace hE := hE.kx hRL0 (by omega)
      refine W_seq ?_
      refine W_region ?_
      refine WL_q rfl (ev_lss rfl rfl) ?_
      refine WL_nil ?_
      refine thenE_n ?_
      refine W_seq ?_
      refine W_cond rfl (fun hg43 => ?_) (fun hg43 => ?_)
      · have hp43 := of_decide_eq_true hg43
        refine W_skip ?_
        refine thenE_n ?_
        refine W_seq ?_
        refine W_block ?_
        refine W_seq ?_
        refine W_region ?_
        refine WL_q rfl (ev_move rfl) ?_
        refine WL_q rfl (ev_assign rfl) ?_
        refine WL_nil ?_
        refine thenE_n ?_
        refine W_seq ?_
        refine W_region ?_
        have hilt : i < A.ends.length := by omega
        refine WL_q rfl (ev_fieldAddr fo31_0 rfl) ?_
        refine WL_q rfl (ev_load one29 rfl (hB6.cell rfl)) ?_
        refine WL_q rfl (ev_len Try.underlying29 rfl) ?_
        refine WL_q rfl (ev_move rfl) ?_
        refine WL_nil ?_
        refine thenE_n ?_
        refine W_block ?_
        refine W_loopC (G := Nat) [(3, _), (4, _), (5, _), (6, _), (10, _), (12, _), (14, _), (41, _), (42, _), (47, _)] ((Subs.c rfl (Subs.c rfl (Subs.c rfl (Subs.c rfl (Subs.c rfl (Subs.c rfl (Subs.c rfl (Subs.c rfl (Subs.c rfl (Subs.c rfl Subs.n))))))))))) (fun k => [(13, VI ((pl ff gg B.ends.length i k).length : Int)), (48, VI (k : Int))]) (fun k w' => KX (w32.heap.size) wL0 w' ∧ k ≤ B.ends.length ∧ NR intF 1 (w32.heap.size + 1) w'.heap.size w' 3 23 w32.heap.size i wL0.heap.size (i + 1) ((mixF (fun i => ntR ff gg B.ends.length i B.ends.length) (List.replicate A.ends.length []) i).set i (ntR ff gg B.ends.length i k))) (fun g => B.ends.length - g) 0 ((Subs.c (lkI rfl (by rw [pl_zero])) (Subs.c (lkI rfl (by omega)) Subs.n))) (⟨KX.refl _ _, ⟨Nat.zero_le _, ((hR.fwd (Nat.le_refl _) (by omega)).to (mixF_nil hilt)).up (by omega)⟩⟩) ?_
        rintro k wL2 ⟨hRL2, hk', hR⟩
        have hzL2 := hRL2.size
        replace hA := hA.kx hRL2 (by omega)
        replace hB := hB.kx hRL2 (by omega)
        replace hD := hD.kx hRL2 (by omega)
        replace hff := hff.kx hRL2 (by omega)
        replace hgg := hgg.kx hRL2 (by omega)
        replace hB5 := hB5.kx hRL2 (by omega)
        replace hB6 := hB6.kx hRL2 (by omega)
        replace hB7 := hB7.kx hRL2 (by omega)
        replace hB10 := hB10.kx hRL2 (by omega)
        replace hE := hE.kx hRL2 (by omega)
        replace hRL0 := hRL0.kx hRL2 (by omega)
        have hpl := pl_le (f := ff) (g := gg) (nB := B.ends.length) (i := i) (k := k) (by omega) (by omega) (by omega)
        refine W_seq ?_
        refine W_region ?_
        refine WL_q rfl (ev_lss rfl rfl) ?_
        refine WL_nil ?_
        refine thenE_n ?_
        refine W_seq ?_
        refine W_cond rfl (fun hg49 => ?_) (fun hg49 => ?_)
        · have hp49 := of_decide_eq_true hg49
          refine W_skip ?_
          refine thenE_n ?_
          refine W_seq ?_
          refine W_block ?_
          refine W_seq ?_
          refine W_region ?_
          have hlk : k < B.ends.length := by omega
          obtain ⟨vs, hbl, hBk, hOA, hvm, hvj⟩ := hR
          have hvl := hOA.len
          have hxl : ((mixF (fun i => ntR ff gg B.ends.length i B.ends.length) (List.replicate A.ends.length []) i).set i (ntR ff gg B.ends.length i k)).length = A.ends.length := by simp [mixF_len]
          have hiv : i < vs.length := by omega
          have hix : i < ((mixF (fun i => ntR ff gg B.ends.length i B.ends.length) (List.replicate A.ends.length []) i).set i (ntR ff gg B.ends.length i k)).length := by omega
          have hO := (hOA.own _ hiv hix).above (m := wL0.heap.size) (fun q hq => hvm q (by rw [getD_eq hiv]; exact hq))
          have hxr : ((mixF (fun i => ntR ff gg B.ends.length i B.ends.length) (List.replicate A.ends.length []) i).set i (ntR ff gg B.ends.length i k))[i] = ntR ff gg B.ends.length i k := List.getElem_set_self ..
          have hrl : (((mixF (fun i => ntR ff gg B.ends.length i B.ends.length) (List.replicate A.ends.length []) i).set i (ntR ff gg B.ends.length i k))[i]).length ≤ 40 := by rw [hxr, ntR_len]; omega
          refine WL_q rfl (ev_move rfl) ?_
          refine WL_q rfl (ev_assign rfl) ?_
          refine WL_nil ?_
          refine thenE_n ?_
          refine W_seq ?_
          refine W_drawE [(0, true), (1, true), (2, true), (3, true), (4, true), (5, true), (6, true), (7, true), (8, true)] mixed (by kernel_rfl) rfl (by kernel_rfl) ?_
          intro wd11 hEd11 hzd11
          replace hE := hE.trans hEd11
          replace hRL0 := hRL0.trans hEd11
          replace hRL2 := hRL2.trans hEd11
          replace hA := hA.ext hEd11
          replace hB := hB.ext hEd11
          replace hD := hD.ext hEd11
          replace hff := hff.ext hEd11
          replace hgg := hgg.ext hEd11
          replace hB5 := hB5.ext hEd11
          replace hB6 := hB6.ext hEd11
          replace hB7 := hB7.ext hEd11
          replace hB10 := hB10.ext hEd11
          replace hBk := hBk.ext hEd11
          replace hOA := hOA.ext hEd11
          replace hO := hO.ext hEd11
          have hDd11 := Ext.refl wd11
          refine PW_q rfl rfl (fun wq hq => ev_move rfl) ?_
          refine PW_q rfl rfl (fun wq hq => ev_move rfl) ?_
          refine PW_q rfl rfl (fun wq hq => ev_indexAddr Try.underlying23 sz3 rfl rfl (hff.isSome (by omega)) (by omega) (by omega)) ?_
          have hc54 := hff.cell (i := i) (by omega)
          refine PW_q rfl rfl (fun wq hq => ev_load one3 rfl (hq.cell (hc54))) ?_
          refine PW_q rfl rfl (fun wq hq => ev_move rfl) ?_
          refine PW_q rfl rfl (fun wq hq => ev_move rfl) ?_
          refine PW_q rfl rfl (fun wq hq => ev_indexAddr Try.underlying23 sz3 rfl rfl (hgg.isSome (by omega)) (by omega) (by omega)) ?_
          have hc58 := hgg.cell (i := k) (by omega)
          refine PW_q rfl rfl (fun wq hq => ev_load one3 rfl (hq.cell (hc58))) ?_
          refine PW_q rfl rfl (fun wq hq => ev_eql rfl rfl) ?_
          refine PW_nil ?_
          refine thenE_n ?_
          refine W_cond rfl (fun hg59 => ?_) (fun hg59 => ?_)
          · have hp59 := of_decide_eq_true hg59
            refine W_seq ?_
            refine W_region ?_
            refine WL_q rfl (ev_move rfl) ?_
            refine WL_q rfl (ev_move rfl) ?_
            refine WL_q rfl (ev_move rfl) ?_
            refine WL_q rfl (ev_move rfl) ?_
            refine WL_q rfl (ev_indexAddr Try.underlying26 sz23 rfl rfl rfl (by omega) (by omega)) ?_
            refine WL_q rfl (ev_load one23 rfl (zip_cell hBk hvl hix)) ?_
            refine WL_q rfl (ev_move rfl) ?_
            refine WL_m rfl (ev_lit1 Try.underlying23 el3 (by decide) (by decide) rfl rfl) ?_
            rintro _ w67 ⟨rfl, hN67⟩
            have hz67 := hN67.size
            replace hE := hE.trans hN67.ext
            replace hRL0 := hRL0.trans hN67.ext
            replace hRL2 := hRL2.trans hN67.ext
            replace hA := hA.ext hN67.ext
            replace hB := hB.ext hN67.ext
            replace hD := hD.ext hN67.ext
            replace hff := hff.ext hN67.ext
            replace hgg := hgg.ext hN67.ext
            replace hB5 := hB5.ext hN67.ext
            replace hB6 := hB6.ext hN67.ext
            replace hB7 := hB7.ext hN67.ext
            replace hB10 := hB10.ext hN67.ext
            replace hBk := hBk.ext hN67.ext
            replace hOA := hOA.ext hN67.ext
            replace hO := hO.ext hN67.ext
            have hB67 := hN67.blk
            have hOA0 := hOA
            refine WL_m rfl (ev_append Try.underlying23 el3 rfl (by decide) rfl rfl hO (SAt.of_blk (cs := [_]) (ds := []) hB67) rfl (by simp [Value.oneCell']) (by omega) (by unfold maxLen; omega) (by omega)) ?_
            rintro _ w68 ⟨a68, c68, rfl, hO68, hK68, hQ68⟩
            have hz68 := hK68.size
            replace hE := hE.app hK68 (fun q hq => by have := (hO.block q hq).1; omega)
            replace hRL0 := hRL0.app hK68 (fun q hq => by have := (hO.block q hq).1; omega)
            replace hRL2 := hRL2.app hK68 (fun q hq => by have := (hO.block q hq).1; omega)
            replace hA := hA.app hK68 (hO) (by omega)
            replace hB := hB.app hK68 (hO) (by omega)
            replace hD := hD.app hK68 (hO) (by omega)
            replace hff := hff.app hK68 (hO) (by omega)
            replace hgg := hgg.app hK68 (hO) (by omega)
            replace hB5 := hB5.app hK68 (hO) (by omega)
            replace hB6 := hB6.app hK68 (hO) (by omega)
            replace hB7 := hB7.app hK68 (hO) (by omega)
            replace hB10 := hB10.app hK68 (hO) (by omega)
            replace hBk := hBk.app hK68 (hO) (by omega)
            replace hO := hO68
            refine WL_q rfl (ev_indexAddr Try.underlying26 sz23 rfl rfl rfl (by omega) (by omega)) ?_
            refine WL_s (ev_store sz23 rfl rfl rfl hBk (by simp; omega)) ?_
            rintro _ w12_10 hS12_10
            have hz12_10 := hS12_10.size
            replace hE := hE.sto hS12_10 (by omega)
            replace hRL0 := hRL0.sto hS12_10 (by omega)
            replace hRL2 := hRL2.sto hS12_10 (by omega)
            replace hA := hA.sto hS12_10 (by omega)
            replace hB := hB.sto hS12_10 (by omega)
            replace hD := hD.sto hS12_10 (by omega)
            replace hff := hff.sto hS12_10 (by omega)
            replace hgg := hgg.sto hS12_10 (by omega)
            replace hB5 := hB5.sto hS12_10 (by omega)
            replace hB6 := hB6.sto hS12_10 (by omega)
            replace hB7 := hB7.sto hS12_10 (by omega)
            replace hB10 := hB10.sto hS12_10 (by omega)
            replace hO := hO.sto hS12_10 (by omega)
            replace hBk := hS12_10.blk
            have hR2 := NR.put hbl hOA0 (by omega) hiv hvm (by omega) hvj (by omega) hK68 ((own_snoc hO68).mono (by omega)) (by simp) hQ68 hS12_10 (by omega) hBk
            refine WL_nil ?_
            refine thenE_n ?_
            refine W_region ?_
            refine WL_q rfl (ev_move rfl) ?_
            refine WL_q rfl (ev_add rfl rfl (by omega)) ?_
            refine WL_q rfl (ev_assign rfl) ?_
            refine WL_nil ?_
            refine blockE_n ?_
            refine thenE_n ?_
            refine W_region ?_
            refine WL_q rfl (ev_add rfl rfl (by omega)) ?_
            refine WL_q rfl (ev_move rfl) ?_
            refine WL_nil ?_
            refine thenE_n ?_
            have he9 := eqv_t (f := ff) (g := gg) (i := i) (k := k) (by omega) (by omega) hp59
            exact ⟨k + 1, (Subs.c rfl (Subs.c rfl (Subs.c rfl (Subs.c rfl (Subs.c rfl (Subs.c rfl (Subs.c rfl (Subs.c rfl (Subs.c rfl (Subs.c rfl Subs.n)))))))))), (Subs.c (lkI rfl (by rw [← pl_yes he9]; simp)) (Subs.c (lkI rfl (by omega)) Subs.n)), ⟨hRL2, ⟨by omega, hR2.to (by rw [hxr, List.set_set, ntR_yes he9])⟩⟩, by first | omega | (dsimp only; omega)⟩
          · have hp59 := of_decide_eq_false hg59
            refine W_region ?_
            refine WL_q rfl (ev_move rfl) ?_
            refine WL_q rfl (ev_move rfl) ?_
            refine WL_q rfl (ev_move rfl) ?_
            refine WL_q rfl (ev_move rfl) ?_
            refine WL_q rfl (ev_indexAddr Try.underlying26 sz23 rfl rfl rfl (by omega) (by omega)) ?_
            refine WL_q rfl (ev_load one23 rfl (zip_cell hBk hvl hix)) ?_
            refine WL_m rfl (ev_lit1 Try.underlying23 el3 (by decide) (by decide) rfl rfl) ?_
            rintro _ w78 ⟨rfl, hN78⟩
            have hz78 := hN78.size
            replace hE := hE.trans hN78.ext
            replace hRL0 := hRL0.trans hN78.ext
            replace hRL2 := hRL2.trans hN78.ext
            replace hA := hA.ext hN78.ext
            replace hB := hB.ext hN78.ext
            replace hD := hD.ext hN78.ext
            replace hff := hff.ext hN78.ext
            replace hgg := hgg.ext hN78.ext
            replace hB5 := hB5.ext hN78.ext
            replace hB6 := hB6.ext hN78.ext
            replace hB7 := hB7.ext hN78.ext
            replace hB10 := hB10.ext hN78.ext
            replace hBk := hBk.ext hN78.ext
            replace hOA := hOA.ext hN78.ext
            replace hO := hO.ext hN78.ext
            have hB78 := hN78.blk
            have hOA0 := hOA
            refine WL_m rfl (ev_append Try.underlying23 el3 rfl (by decide) rfl rfl hO (SAt.of_blk (cs := [_]) (ds := []) hB78) rfl (by simp [Value.oneCell']) (by omega) (by unfold maxLen; omega) (by omega)) ?_
            rintro _ w79 ⟨a79, c79, rfl, hO79, hK79, hQ79⟩
            have hz79 := hK79.size
            replace hE := hE.app hK79 (fun q hq => by have := (hO.block q hq).1; omega)
            replace hRL0 := hRL0.app hK79 (fun q hq => by have := (hO.block q hq).1; omega)
            replace hRL2 := hRL2.app hK79 (fun q hq => by have := (hO.block q hq).1; omega)
            replace hA := hA.app hK79 (hO) (by omega)
            replace hB := hB.app hK79 (hO) (by omega)
            replace hD := hD.app hK79 (hO) (by omega)
            replace hff := hff.app hK79 (hO) (by omega)
            replace hgg := hgg.app hK79 (hO) (by omega)
            replace hB5 := hB5.app hK79 (hO) (by omega)
            replace hB6 := hB6.app hK79 (hO) (by omega)
            replace hB7 := hB7.app hK79 (hO) (by omega)
            replace hB10 := hB10.app hK79 (hO) (by omega)
            replace hBk := hBk.app hK79 (hO) (by omega)
            replace hO := hO79
            refine WL_q rfl (ev_indexAddr Try.underlying26 sz23 rfl rfl rfl (by omega) (by omega)) ?_
            refine WL_s (ev_store sz23 rfl rfl rfl hBk (by simp; omega)) ?_
            rintro _ w14_9 hS14_9
            have hz14_9 := hS14_9.size
            replace hE := hE.sto hS14_9 (by omega)
            replace hRL0 := hRL0.sto hS14_9 (by omega)
            replace hRL2 := hRL2.sto hS14_9 (by omega)
            replace hA := hA.sto hS14_9 (by omega)
            replace hB := hB.sto hS14_9 (by omega)
            replace hD := hD.sto hS14_9 (by omega)
            replace hff := hff.sto hS14_9 (by omega)
            replace hgg := hgg.sto hS14_9 (by omega)
            replace hB5 := hB5.sto hS14_9 (by omega)
            replace hB6 := hB6.sto hS14_9 (by omega)
            replace hB7 := hB7.sto hS14_9 (by omega)
            replace hB10 := hB10.sto hS14_9 (by omega)
            replace hO := hO.sto hS14_9 (by omega)
            replace hBk := hS14_9.blk
            have hR2 := NR.put hbl hOA0 (by omega) hiv hvm (by omega) hvj (by omega) hK79 ((own_snoc hO79).mono (by omega)) (by simp) hQ79 hS14_9 (by omega) hBk
            refine WL_nil ?_
            refine blockE_n ?_
            refine thenE_n ?_
            refine W_region ?_
            refine WL_q rfl (ev_add rfl rfl (by omega)) ?_
            refine WL_q rfl (ev_move rfl) ?_
            refine WL_nil ?_
            refine thenE_n ?_
            have he9 := eqv_f (f := ff) (g := gg) (i := i) (k := k) (by omega) (by omega) hp59
            exact ⟨k + 1, (Subs.c rfl (Subs.c rfl (Subs.c rfl (Subs.c rfl (Subs.c rfl (Subs.c rfl (Subs.c rfl (Subs.c rfl (Subs.c rfl (Subs.c rfl Subs.n)))))))))), (Subs.c (lkI rfl (by rw [pl_no he9])) (Subs.c (lkI rfl (by omega)) Subs.n)), ⟨hRL2, ⟨by omega, hR2.to (by rw [hxr, List.set_set, ntR_no he9])⟩⟩, by first | omega | (dsimp only; omega)⟩
        · have hp49 := of_decide_eq_false hg49
          refine W_exit ?_
          refine thenE_x ?_
          refine thenE_x ?_
          refine blockE_hit ?_
          refine blockE_n ?_
          refine thenE_n ?_
          refine W_region ?_
          refine WL_q rfl (ev_add rfl rfl (by omega)) ?_
          refine WL_q rfl (ev_move rfl) ?_
          refine WL_nil ?_
          refine thenE_n ?_
          have hk9 : k = B.ends.length := by omega
          subst hk9
          exact ⟨i + 1, (Subs.c rfl (Subs.c rfl (Subs.c rfl (Subs.c rfl (Subs.c rfl (Subs.c rfl (Subs.c rfl Subs.n))))))), (Subs.c rfl (Subs.c (lkI rfl (by omega)) Subs.n)), ⟨hRL0, ⟨by omega, (hR.fwd (by omega) (by omega)).to (mixF_set (f := (fun i => ntR ff gg B.ends.length i B.ends.length)) (by simpa using hilt))⟩⟩, by first | omega | (dsimp only; omega)⟩
      · have hp43 := of_decide_eq_false hg43
        refine W_exit ?_
        refine thenE_x ?_
        refine thenE_x ?_
        refine blockE_hit ?_
        refine thenE_n ?_
        refine W_seq ?_
        refine W_seq ?_
        refine W_region ?_
        have hi9 : i = A.ends.length := by omega
        subst hi9
        replace hR := hR.to (show _ = (numT A B ff gg) by rw [mixF_full (by simp), List.length_replicate]; rfl)
        have hnl9 := numT_len (A := A) (B := B) (f := ff) (g := gg)
        have hI9 : Intss w32.heap.size wL0.heap.size wL0 (some ⟨w32.heap.size, 0, none⟩) A.ends.length (numT A B ff gg) := ((hR.rows rfl (Nat.le_refl _) (by omega)).is (Nat.le_of_eq hnl9))
        have hPl8 : (ftN ff gg B.ends.length A.ends.length).length ≤ 1600 := PLf_le hH
        refine WL_q rfl (ev_move rfl) ?_
        refine WL_m rfl (ev_call rfl (l1In_spec _ _ _ _)) ?_
        rintro _ _ ⟨rfl, rfl⟩
        refine WL_q rfl (ev_not rfl) ?_
        refine WL_nil ?_
        refine thenE_n ?_
        refine W_cond rfl (fun hg85 => ?_) (fun hg85 => ?_)
        · have hg84 := not_true hg85
          have hp84 := inR_false.1 hg84
          refine W_seq ?_
          refine W_region ?_
          refine WL_q rfl (ev_buildP0 sn31_3 zr31 ) ?_
          refine WL_s (ev_stores sz31 rfl rfl rfl (by simp [Value.oneCell']) hB10 (by simp)) ?_
          rintro _ w18_1 hS18_1
          have hz18_1 := hS18_1.size
          replace hE := hE.sto hS18_1 (by omega)
          replace hA := hA.sto hS18_1 (by omega)
          replace hB := hB.sto hS18_1 (by omega)
          replace hD := hD.sto hS18_1 (by omega)
          replace hff := hff.sto hS18_1 (by omega)
          replace hgg := hgg.sto hS18_1 (by omega)
          replace hB5 := hB5.sto hS18_1 (by omega)
          replace hB6 := hB6.sto hS18_1 (by omega)
          replace hB7 := hB7.sto hS18_1 (by omega)
          replace hR := hR.sto hS18_1 (by omega)
          replace hI9 := hI9.sto hS18_1 (by omega)
          replace hB10 : Blk w18_1 _ _ [_, _, _] := hS18_1.blk
          refine WL_q rfl (ev_assign rfl) ?_
          refine WL_nil ?_
          refine thenE_n ?_
          refine W_ret ?_
          refine thenE_r ?_
          refine retc2 rfl rfl st31 sz31 (cellsB hB10) rfl rfl ?_
          first | (exact ⟨⟨none, 0, none, 0, none, 0⟩, ⟨[], [], []⟩, _, rfl, .no (fun h => hp26 ⟨h.1.a, h.1.d, h.1.pf⟩), ⟨Nest.nil, Ints.nil, Ints.nil⟩, by decide, hE⟩) | (exact ⟨⟨none, 0, none, 0, none, 0⟩, ⟨[], [], []⟩, _, rfl, .no (fun h => hp32 ⟨h.1.b, h.1.d, h.1.pg⟩), ⟨Nest.nil, Ints.nil, Ints.nil⟩, by decide, hE⟩) | (exact ⟨⟨none, 0, none, 0, none, 0⟩, ⟨[], [], []⟩, _, rfl, .no (fun h => tf hg84 (inR_true.2 (by have h7 : 1 ≤ (ftN ff gg B.ends.length A.ends.length).length := h.2.1; have h8 : (ftN ff gg B.ends.length A.ends.length).length ≤ 40 := h.2.2; omega))), ⟨Nest.nil, Ints.nil, Ints.nil⟩, by decide, hE⟩) | (obtain ⟨vs, hbl, hBk, hOA, hvm, hvj⟩ := hR; have h7 := inR_true.1 hg84; exact ⟨⟨some ⟨b88, 0, none⟩, (ftN ff gg B.ends.length A.ends.length).length, none, 0, some ⟨d88, 0, none⟩, (ftN ff gg B.ends.length A.ends.length).length⟩, fibP A B ff gg, _, by simp [netV, fibP], .yes ⟨hH, by show 1 ≤ (ftN ff gg B.ends.length A.ends.length).length; omega, by show (ftN ff gg B.ends.length A.ends.length).length ≤ 40; omega⟩ rfl, net_blocks (hOA.prows.mono (by omega) (by omega)) hBk ⟨by omega, by omega⟩ hBi ⟨by omega, by omega⟩ rfl fib_lens.1 fib_lens.2, fib_tot hH, hE⟩)
        · have hg84 := not_false hg85
          have hp84 := inR_true.1 hg84
          refine W_skip ?_
          refine thenE_n ?_
          refine W_seq ?_
          refine W_region ?_
          refine WL_q rfl (ev_move rfl) ?_
          refine WL_m rfl (ev_call rfl (neEmpty_spec _ _ (by omega))) ?_
          rintro _ w88 ⟨b88, d88, rfl, hx88, hBo88, hBi88, hE88⟩
          have hz88 := hE88.size
          replace hE := hE.trans hE88
          replace hA := hA.ext hE88
          replace hB := hB.ext hE88
          replace hD := hD.ext hE88
          replace hff := hff.ext hE88
          replace hgg := hgg.ext hE88
          replace hB5 := hB5.ext hE88
          replace hB6 := hB6.ext hE88
          replace hB7 := hB7.ext hE88
          replace hB10 := hB10.ext hE88
          replace hR := hR.ext hE88
          replace hI9 := hI9.ext hE88
          refine WL_m rfl (ev_alloc zr31) ?_
          rintro _ w16 ⟨rfl, hN16⟩
          have hz16 := hN16.size
          replace hE := hE.trans hN16.ext
          replace hA := hA.ext hN16.ext
          replace hB := hB.ext hN16.ext
          replace hD := hD.ext hN16.ext
          replace hff := hff.ext hN16.ext
          replace hgg := hgg.ext hN16.ext
          replace hB5 := hB5.ext hN16.ext
          replace hB6 := hB6.ext hN16.ext
          replace hB7 := hB7.ext hN16.ext
          replace hB10 := hB10.ext hN16.ext
          replace hR := hR.ext hN16.ext
          replace hI9 := hI9.ext hN16.ext
          replace hBo88 := hBo88.ext hN16.ext
          replace hBi88 := hBi88.ext hN16.ext
          have hB16 : Blk w16 _ _ [_, _, _] := hN16.blk
          refine WL_s (ev_stores sz31 rfl rfl rfl (by simp [Value.oneCell']) hB16 (by simp)) ?_
          rintro _ w19_3 hS19_3
          have hz19_3 := hS19_3.size
          replace hE := hE.sto hS19_3 (by omega)
          replace hA := hA.sto hS19_3 (by omega)
          replace hB := hB.sto hS19_3 (by omega)
          replace hD := hD.sto hS19_3 (by omega)
          replace hff := hff.sto hS19_3 (by omega)
          replace hgg := hgg.sto hS19_3 (by omega)
          replace hB5 := hB5.sto hS19_3 (by omega)
          replace hB6 := hB6.sto hS19_3 (by omega)
          replace hB7 := hB7.sto hS19_3 (by omega)
          replace hB10 := hB10.sto hS19_3 (by omega)
          replace hR := hR.sto hS19_3 (by omega)
          replace hI9 := hI9.sto hS19_3 (by omega)
          replace hBo88 := hBo88.sto hS19_3 (by omega)
          replace hBi88 := hBi88.sto hS19_3 (by omega)
          replace hB16 : Blk w19_3 _ _ [_, _, _] := hS19_3.blk
          refine WL_nil ?_
          refine thenE_n ?_
          refine W_seq ?_
          refine W_seq ?_
          refine W_region ?_
          obtain ⟨hx1, hx2, hx3, hx4, hx5⟩ := hx88
          have hfl1 : (fibP A B ff gg).inputs.length = (ftN ff gg B.ends.length A.ends.length).length := fib_lens.2
          have hR0 : NR pairF 2 w16.heap.size w19_3.heap.size w19_3 61 56 b88 0 0 0 (mixF (fibR A B ff gg) (List.replicate (ftN ff gg B.ends.length A.ends.length).length []) 0) := by rw [mixF_zero]; exact NR.made hBo88 (by omega)
          have hBi0 : Blk w19_3 d88 3 ((fiL (fibP A B ff gg).inputs 0).map VI) := by rw [fiL_zero, hfl1, List.map_replicate]; exact hBi88
          refine WL_q rfl (ev_fieldAddr fo31_0 rfl) ?_
          refine WL_q rfl (ev_load one29 rfl (hB5.cell rfl)) ?_
          refine WL_q rfl (ev_len Try.underlying29 rfl) ?_
          refine WL_q rfl (ev_move rfl) ?_
          refine WL_nil ?_
          refine thenE_n ?_
          refine W_block ?_
          refine W_loopC (G := Nat) [(5, _), (6, _), (10, _), (12, _), (16, _), (90, _), (91, _)] ((Subs.c rfl (Subs.c rfl (Subs.c rfl (Subs.c rfl (Subs.c rfl (Subs.c rfl (Subs.c rfl Subs.n)))))))) (fun i => [(92, VI (i : Int))]) (fun i w' => Lo (wL0.heap.size) w19_3 w' ∧ i ≤ A.ends.length ∧ Blk w' w88.heap.size 31 [.slice (some ⟨b88, 0, none⟩) (ftN ff gg B.ends.length A.ends.length).length (ftN ff gg B.ends.length A.ends.length).length, .slice none 0 0, .slice (some ⟨d88, 0, none⟩) (ftN ff gg B.ends.length A.ends.length).length (ftN ff gg B.ends.length A.ends.length).length] ∧ NR pairF 2 w16.heap.size w'.heap.size w' 61 56 b88 (ftN ff gg B.ends.length i).length 0 (ftN ff gg B.ends.length i).length (mixF (fibR A B ff gg) (List.replicate (ftN ff gg B.ends.length A.ends.length).length []) (ftN ff gg B.ends.length i).length) ∧ Blk w' d88 3 ((fiL (fibP A B ff gg).inputs (ftN ff gg B.ends.length i).length).map VI)) (fun i => A.ends.length - i) 0 ((Subs.c (lkI rfl (by omega)) Subs.n)) (⟨Lo.refl (by omega), ⟨Nat.zero_le _, hB16, hR0, hBi0⟩⟩) ?_
          rintro i wL4 ⟨hRL4, hi', hB16, hR, hBi⟩
          have hzL4 := hRL4.size
          replace hA := hA.lo hRL4 (by omega)
          replace hB := hB.lo hRL4 (by omega)
          replace hD := hD.lo hRL4 (by omega)
          replace hff := hff.lo hRL4 (by omega)
          replace hgg := hgg.lo hRL4 (by omega)
          replace hB5 := hB5.lo hRL4 (by omega)
          replace hB6 := hB6.lo hRL4 (by omega)
          replace hB7 := hB7.lo hRL4 (by omega)
          replace hB10 := hB10.lo hRL4 (by omega)
          replace hI9 := hI9.lo hRL4 (by omega)
          replace hE := hE.lo hRL4 (by omega)
          refine W_seq ?_
          refine W_region ?_
          refine WL_q rfl (ev_lss rfl rfl) ?_
          refine WL_nil ?_
          refine thenE_n ?_
          refine W_seq ?_
          refine W_cond rfl (fun hg93 => ?_) (fun hg93 => ?_)
          · have hp93 := of_decide_eq_true hg93
            refine W_skip ?_
            refine thenE_n ?_
            refine W_seq ?_
            refine W_block ?_
            refine W_seq ?_
            refine W_region ?_
            refine WL_q rfl (ev_move rfl) ?_
            have hilt : i < A.ends.length := by omega
            have h6i := h6 _ (List.getElem_mem hilt)
            have hl95 : i < A.ends.length := by omega
            have ht95 := totL_le hl95
            obtain ⟨a95, c95, hc95, hr95⟩ := hA.ends.row hl95
            refine WL_q rfl (ev_indexAddr Try.underlying29 sz56 rfl rfl (hA.ends.isSome (by omega)) (by omega) (by omega)) ?_
            refine WL_q rfl (ev_load one56 rfl (hc95)) ?_
            refine WL_q rfl (ev_assign rfl) ?_
            refine WL_q rfl (ev_assign rfl) ?_
            refine WL_nil ?_
            refine thenE_n ?_
            refine W_seq ?_
            refine W_region ?_
            refine WL_q rfl (ev_fieldAddr fo31_0 rfl) ?_
            refine WL_q rfl (ev_load one29 rfl (hB6.cell rfl)) ?_
            refine WL_q rfl (ev_len Try.underlying29 rfl) ?_
            refine WL_q rfl (ev_move rfl) ?_
            refine WL_nil ?_
            refine thenE_n ?_
            refine W_block ?_
            refine W_loopC (G := Nat) [(5, _), (6, _), (10, _), (12, _), (16, _), (17, _), (18, _), (90, _), (91, _), (92, _), (99, _)] ((Subs.c rfl (Subs.c rfl (Subs.c rfl (Subs.c rfl (Subs.c rfl (Subs.c rfl (Subs.c rfl (Subs.c rfl (Subs.c rfl (Subs.c rfl (Subs.c rfl Subs.n)))))))))))) (fun k => [(100, VI (k : Int))]) (fun k w' => Lo (wL0.heap.size) wL4 w' ∧ k ≤ B.ends.length ∧ Blk w' w88.heap.size 31 [.slice (some ⟨b88, 0, none⟩) (ftN ff gg B.ends.length A.ends.length).length (ftN ff gg B.ends.length A.ends.length).length, .slice none 0 0, .slice (some ⟨d88, 0, none⟩) (ftN ff gg B.ends.length A.ends.length).length (ftN ff gg B.ends.length A.ends.length).length] ∧ NR pairF 2 w16.heap.size w'.heap.size w' 61 56 b88 (pl ff gg B.ends.length i k).length 0 (pl ff gg B.ends.length i k).length (mixF (fibR A B ff gg) (List.replicate (ftN ff gg B.ends.length A.ends.length).length []) (pl ff gg B.ends.length i k).length) ∧ Blk w' d88 3 ((fiL (fibP A B ff gg).inputs (pl ff gg B.ends.length i k).length).map VI)) (fun g => B.ends.length - g) 0 ((Subs.c (lkI rfl (by omega)) Subs.n)) (⟨Lo.refl (by omega), ⟨Nat.zero_le _, hB16, by rw [pl_zero]; exact hR, by rw [pl_zero]; exact hBi⟩⟩) ?_
            rintro k wL6 ⟨hRL6, hk', hB16, hR, hBi⟩
            have hzL6 := hRL6.size
            replace hA := hA.lo hRL6 (by omega)
            replace hB := hB.lo hRL6 (by omega)
            replace hD := hD.lo hRL6 (by omega)
            replace hff := hff.lo hRL6 (by omega)
            replace hgg := hgg.lo hRL6 (by omega)
            replace hB5 := hB5.lo hRL6 (by omega)
            replace hB6 := hB6.lo hRL6 (by omega)
            replace hB7 := hB7.lo hRL6 (by omega)
            replace hB10 := hB10.lo hRL6 (by omega)
            replace hI9 := hI9.lo hRL6 (by omega)
            replace hr95 := hr95.lo hRL6 (by omega)
            replace hE := hE.lo hRL6 (by omega)
            replace hRL4 := hRL4.lo hRL6 (by omega)
            have hpp9 := pl_no (f := ff) (g := gg) (nB := B.ends.length) (i := i) (k := k)
            have hpy9 := fun h => congrArg List.length (pl_yes (f := ff) (g := gg) (nB := B.ends.length) (i := i) (k := k) h)
            obtain ⟨p, hpp⟩ : ∃ p, (pl ff gg B.ends.length i k).length = p := ⟨_, rfl⟩
            rw [hpp] at hR hBi
            refine W_seq ?_
            refine W_region ?_
            refine WL_q rfl (ev_lss rfl rfl) ?_
            refine WL_nil ?_
            refine thenE_n ?_
            refine W_seq ?_
            refine W_cond rfl (fun hg101 => ?_) (fun hg101 => ?_)
            · have hp101 := of_decide_eq_true hg101
              refine W_skip ?_
              refine thenE_n ?_
              refine W_seq ?_
              refine W_block ?_
              refine W_seq ?_
              refine W_region ?_
              refine WL_q rfl (ev_move rfl) ?_
              refine WL_q rfl (ev_assign rfl) ?_
              refine WL_nil ?_
              refine thenE_n ?_
              refine W_seq ?_
              refine W_region ?_
              refine WL_q rfl (ev_move rfl) ?_
              refine WL_q rfl (ev_move rfl) ?_
              have hlk : k < B.ends.length := by omega
              have hl105 : i < (numT A B ff gg).length := by omega
              have ht105 := totL_le hl105
              obtain ⟨a105, c105, hc105, hr105⟩ := hI9.row hl105
              refine WL_q rfl (ev_indexAddr Try.underlying26 sz23 rfl rfl (hI9.isSome (by omega)) (by omega) (by omega)) ?_
              refine WL_q rfl (ev_load one23 rfl (hc105)) ?_
              have hnr := numT_row (A := A) (B := B) (f := ff) (g := gg) (i := i) (by omega)
              refine WL_q rfl (ev_move rfl) ?_
              refine WL_q rfl (ev_indexAddr Try.underlying23 sz3 rfl rfl (hr105.isSome (by omega)) (by omega) (by omega)) ?_
              refine WL_q rfl (ev_load one3 rfl (hr105.cell (i := k) (by omega))) ?_
              have hxv := numT_at (A := A) (B := B) (f := ff) (g := gg) (i := i) (k := k) (by omega) (by omega)
              generalize (numT A B ff gg)[i][k] = x at hxv ⊢
              refine WL_q rfl (ev_assign rfl) ?_
              refine WL_nil ?_
              refine thenE_n ?_
              refine W_seq ?_
              refine W_seq ?_
              refine W_region ?_
              refine WL_q rfl (ev_move rfl) ?_
              refine WL_q rfl (ev_lss rfl rfl) ?_
              refine WL_nil ?_
              refine thenE_n ?_
              refine W_cond rfl (fun hg111 => ?_) (fun hg111 => ?_)
              · have hp111 := of_decide_eq_true hg111
                refine W_exit ?_
                refine thenE_x ?_
                refine blockE_hit ?_
                refine thenE_n ?_
                refine W_region ?_
                refine WL_q rfl (ev_add rfl rfl (by omega)) ?_
                refine WL_q rfl (ev_move rfl) ?_
                refine WL_nil ?_
                refine thenE_n ?_
                have he9 := nt_neg hxv hp111
                rw [← hpp, ← hpp9 he9] at hR hBi
                exact ⟨k + 1, (Subs.c rfl (Subs.c rfl (Subs.c rfl (Subs.c rfl (Subs.c rfl (Subs.c rfl (Subs.c rfl (Subs.c rfl (Subs.c rfl (Subs.c rfl (Subs.c rfl Subs.n))))))))))), (Subs.c (lkI rfl (by omega)) Subs.n), ⟨hRL6, ⟨by omega, hB16, hR, hBi⟩⟩, by first | omega | (dsimp only; omega)⟩
              · have hp111 := of_decide_eq_false hg111
                refine W_skip ?_
                refine thenE_n ?_
                refine W_seq ?_
                refine W_seq ?_
                refine W_region ?_
                obtain ⟨he9, hx9⟩ := nt_pos hxv hp111
                rw [show num ff gg B.ends.length i k = p from hpp] at hx9
                subst hx9
                have hplt : (pl ff gg B.ends.length i k).length < (ftN ff gg B.ends.length A.ends.length).length := pl_lt (f := ff) (g := gg) hilt hlk he9
                rw [hpp] at hplt
                have hfr := fibR_at (A := A) (B := B) (f := ff) (g := gg) hilt hlk he9
                rw [hpp] at hfr
                have hdg := hH.deg hilt hlk he9
                have hfrl : (fibR A B ff gg p).length = A.ends[i].length := by rw [hfr]; exact prow_len rfl hilt
                have hfil := fiL_len (L := (fibP A B ff gg).inputs) (i := p) (by omega)
                refine WL_q rfl (ev_move rfl) ?_
                refine WL_q rfl (ev_len Try.underlying56 rfl) ?_
                refine WL_q rfl (ev_move rfl) ?_
                refine WL_nil ?_
                refine thenE_n ?_
                refine W_block ?_
                refine W_loopC (G := Nat) [(5, _), (6, _), (10, _), (12, _), (16, _), (17, _), (18, _), (19, _), (20, _), (90, _), (91, _), (92, _), (99, _), (100, _), (112, _), (113, _)] ((Subs.c rfl (Subs.c rfl (Subs.c rfl (Subs.c rfl (Subs.c rfl (Subs.c rfl (Subs.c rfl (Subs.c rfl (Subs.c rfl (Subs.c rfl (Subs.c rfl (Subs.c rfl (Subs.c rfl (Subs.c rfl (Subs.c rfl (Subs.c rfl Subs.n))))))))))))))))) (fun u => [(114, VI (u : Int))]) (fun u w' => KX (b88) wL6 w' ∧ u ≤ A.ends[i].length ∧ NR pairF 2 w16.heap.size w'.heap.size w' 61 56 b88 p wL6.heap.size (p + 1) ((mixF (fibR A B ff gg) (List.replicate (ftN ff gg B.ends.length A.ends.length).length []) p).set p ((fibR A B ff gg p).take u))) (fun g => A.ends[i].length - g) 0 ((Subs.c (lkI rfl (by omega)) Subs.n)) (⟨KX.refl _ _, ⟨Nat.zero_le _, (hR.fwd (Nat.le_refl _) (by omega)).to (mixF_nil (by omega))⟩⟩) ?_
                rintro u wL8 ⟨hRL8, hu', hR⟩
                have hzL8 := hRL8.size
                replace hA := hA.kx hRL8 (by omega)
                replace hB := hB.kx hRL8 (by omega)
                replace hD := hD.kx hRL8 (by omega)
                replace hff := hff.kx hRL8 (by omega)
                replace hgg := hgg.kx hRL8 (by omega)
                replace hB5 := hB5.kx hRL8 (by omega)
                replace hB6 := hB6.kx hRL8 (by omega)
                replace hB7 := hB7.kx hRL8 (by omega)
                replace hB10 := hB10.kx hRL8 (by omega)
                replace hI9 := hI9.kx hRL8 (by omega)
                replace hr95 := hr95.kx hRL8 (by omega)
                replace hB16 := hB16.kx hRL8 (by omega)
                replace hBi := hBi.kx hRL8 (by omega)
                replace hr105 := hr105.kx hRL8 (by omega)
                replace hE := hE.kx hRL8 (by omega)
                replace hRL4 := hRL4.kx hRL8 (by omega)
                replace hRL6 := hRL6.kx hRL8 (by omega)
                refine W_seq ?_
                refine W_region ?_
                refine WL_q rfl (ev_lss rfl rfl) ?_
                refine WL_nil ?_
                refine thenE_n ?_
                refine W_seq ?_
                refine W_cond rfl (fun hg115 => ?_) (fun hg115 => ?_)
                · have hp115 := of_decide_eq_true hg115
                  refine W_skip ?_
                  refine thenE_n ?_
                  refine W_seq ?_
                  refine W_block ?_
                  refine W_seq ?_
                  refine W_region ?_
                  obtain ⟨vs, hbl, hBk, hOA, hvm, hvj⟩ := hR
                  have hvl := hOA.len
                  have hxl : ((mixF (fibR A B ff gg) (List.replicate (ftN ff gg B.ends.length A.ends.length).length []) p).set p ((fibR A B ff gg p).take u)).length = (ftN ff gg B.ends.length A.ends.length).length := by simp [mixF_len]
                  have hiv : p < vs.length := by omega
                  have hix : p < ((mixF (fibR A B ff gg) (List.replicate (ftN ff gg B.ends.length A.ends.length).length []) p).set p ((fibR A B ff gg p).take u)).length := by omega
                  have e8 := rowv_at9 hiv hix
                  have hOt := hOA.top p hiv
                  have hxr : ((mixF (fibR A B ff gg) (List.replicate (ftN ff gg B.ends.length A.ends.length).length []) p).set p ((fibR A B ff gg p).take u))[p] = (fibR A B ff gg p).take u := List.getElem_set_self ..
                  have hrl : (((mixF (fibR A B ff gg) (List.replicate (ftN ff gg B.ends.length A.ends.length).length []) p).set p ((fibR A B ff gg p).take u))[p]).length ≤ 40 := by rw [hxr, List.length_take]; omega
                  refine WL_q rfl (ev_move rfl) ?_
                  have hlu : u < A.ends[i].length := by omega
                  have hluB : u < B.ends[k].length := by omega
                  have hnr2 := numT_row (A := A) (B := B) (f := ff) (g := gg) (i := A.ends[i][u].1.toNat) (by obtain ⟨k1, k2, k3, k4⟩ := hH.step hilt hlk he9 hlu hluB; omega)
                  obtain ⟨s91, s92, s93, s94⟩ := hH.step hilt hlk he9 hlu hluB
                  obtain ⟨he1, he2, he3, he4, he5⟩ := hH.a.endOk hilt hlu
                  obtain ⟨hf1, hf2, hf3, hf4, hf5⟩ := hH.b.endOk hlk hluB
                  refine WL_q rfl (ev_indexAddr Try.underlying56 sz61 rfl rfl (hr95.isSome (by omega)) (by omega) (by omega)) ?_
                  refine WL_q rfl (ev_loads st61 sz61 rfl (hr95.cells (i := u) (by omega)) rfl) ?_
                  refine WL_m rfl (ev_alloc zr61) ?_
                  rintro _ w22 ⟨rfl, hN22⟩
                  have hz22 := hN22.size
                  replace hE := hE.trans hN22.ext
                  replace hRL4 := hRL4.trans hN22.ext
                  replace hRL6 := hRL6.trans hN22.ext
                  replace hRL8 := hRL8.trans hN22.ext
                  replace hA := hA.ext hN22.ext
                  replace hB := hB.ext hN22.ext
                  replace hD := hD.ext hN22.ext
                  replace hff := hff.ext hN22.ext
                  replace hgg := hgg.ext hN22.ext
                  replace hB5 := hB5.ext hN22.ext
                  replace hB6 := hB6.ext hN22.ext
                  replace hB7 := hB7.ext hN22.ext
                  replace hB10 := hB10.ext hN22.ext
                  replace hI9 := hI9.ext hN22.ext
                  replace hr95 := hr95.ext hN22.ext
                  replace hB16 := hB16.ext hN22.ext
                  replace hBi := hBi.ext hN22.ext
                  replace hr105 := hr105.ext hN22.ext
                  replace hBk := hBk.ext hN22.ext
                  replace hOA := hOA.ext hN22.ext
                  have hB22 : Blk w22 _ _ [_, _] := hN22.blk
                  refine WL_q rfl (ev_assign rfl) ?_
                  refine WL_s (ev_stores sz61 rfl rfl rfl (by simp [Value.oneCell']) hB22 (by simp)) ?_
                  rintro _ w30_5 hS30_5
                  have hz30_5 := hS30_5.size
                  replace hE := hE.sto hS30_5 (by omega)
                  replace hRL4 := hRL4.sto hS30_5 (by omega)
                  replace hRL6 := hRL6.sto hS30_5 (by omega)
                  replace hRL8 := hRL8.sto hS30_5 (by omega)
                  replace hA := hA.sto hS30_5 (by omega)
                  replace hB := hB.sto hS30_5 (by omega)
                  replace hD := hD.sto hS30_5 (by omega)
                  replace hff := hff.sto hS30_5 (by omega)
                  replace hgg := hgg.sto hS30_5 (by omega)
                  replace hB5 := hB5.sto hS30_5 (by omega)
                  replace hB6 := hB6.sto hS30_5 (by omega)
                  replace hB7 := hB7.sto hS30_5 (by omega)
                  replace hB10 := hB10.sto hS30_5 (by omega)
                  replace hI9 := hI9.sto hS30_5 (by omega)
                  replace hr95 := hr95.sto hS30_5 (by omega)
                  replace hB16 := hB16.sto hS30_5 (by omega)
                  replace hBi := hBi.sto hS30_5 (by omega)
                  replace hr105 := hr105.sto hS30_5 (by omega)
                  replace hBk := hBk.sto hS30_5 (by omega)
                  replace hOA := hOA.sto hS30_5 (by omega)
                  replace hB22 : Blk w30_5 _ _ [_, _] := hS30_5.blk
                  have hO := (hOA.own _ hiv hix).above (m := wL6.heap.size) (fun q hq => hvm q (by rw [getD_eq hiv]; exact hq))
                  refine WL_nil ?_
                  refine thenE_n ?_
                  refine W_drawZ 30 wL6.heap.size wL8.heap.size 0 0 (fun w' => True) [(0, true), (1, true), (2, true), (3, true), (4, true), (5, true), (6, true), (7, true), (8, true), (9, true), (10, true), (11, true), (12, true), (13, true), (14, true), (15, true), (16, true), (17, true), (18, true), (19, true), (20, true), (21, true), (22, true), (23, true), (24, true), (25, true), (26, true), (27, false), (28, false), (29, true), (30, false)] mixed (by kernel_rfl) rfl (by kernel_rfl) (fun _ _ => trivial) ?_
                  intro wd31 hEd31 hzd31
                  replace hE := hE.trans hEd31
                  replace hRL4 := hRL4.trans hEd31
                  replace hRL6 := hRL6.trans hEd31
                  replace hRL8 := hRL8.trans hEd31
                  replace hA := hA.ext hEd31
                  replace hB := hB.ext hEd31
                  replace hD := hD.ext hEd31
                  replace hff := hff.ext hEd31
                  replace hgg := hgg.ext hEd31
                  replace hB5 := hB5.ext hEd31
                  replace hB6 := hB6.ext hEd31
                  replace hB7 := hB7.ext hEd31
                  replace hB10 := hB10.ext hEd31
                  replace hI9 := hI9.ext hEd31
                  replace hr95 := hr95.ext hEd31
                  replace hB16 := hB16.ext hEd31
                  replace hBi := hBi.ext hEd31
                  replace hr105 := hr105.ext hEd31
                  replace hBk := hBk.ext hEd31
                  replace hOA := hOA.ext hEd31
                  replace hB22 := hB22.ext hEd31
                  replace hO := hO.ext hEd31
                  have hDd31 := (Rg.refl : Rg wL6.heap.size wL8.heap.size 0 0 wd31 wd31)
                  refine PZ_q rfl rfl rfl (fun wq hq => ev_fieldAddr fo31_0 rfl) ?_
                  refine PZ_q rfl rfl rfl (fun wq hq => ev_load one29 rfl ((hB16.rg hq.1 (by omega)).cell rfl)) ?_
                  refine PZ_q rfl rfl rfl (fun wq hq => ev_move rfl) ?_
                  refine PZ_q rfl rfl rfl (fun wq hq => ev_fieldAddr fo31_0 rfl) ?_
                  refine PZ_q rfl rfl rfl (fun wq hq => ev_load one29 rfl ((hB16.rg hq.1 (by omega)).cell rfl)) ?_
                  refine PZ_q rfl rfl rfl (fun wq hq => ev_move rfl) ?_
                  refine PZ_q rfl rfl rfl (fun wq hq => ev_indexAddr Try.underlying29 sz56 rfl rfl rfl (by omega) (by omega)) ?_
                  refine PZ_q rfl rfl rfl (fun wq hq => ev_load one56 rfl (hq.1.cell' (hBk.cellAt e8 (by simp)) (by omega))) ?_
                  refine PZ_q rfl rfl rfl (fun wq hq => ev_move rfl) ?_
                  refine PZ_q rfl rfl rfl (fun wq hq => ev_fieldAddr fo61_0 rfl) ?_
                  refine PZ_q rfl rfl rfl (fun wq hq => ev_load one3 rfl ((hB22.rg hq.1 (by omega)).cell rfl)) ?_
                  have hl130 : A.ends[i][u].1.toNat < (numT A B ff gg).length := by omega
                  have ht130 := totL_le hl130
                  obtain ⟨a130, c130, hc130, hr130⟩ := hI9.row hl130
                  refine PZ_q rfl rfl rfl (fun wq hq => ev_indexAddr Try.underlying26 sz23 rfl rfl (hI9.isSome (by omega)) (by omega) (by omega)) ?_
                  refine PZ_q rfl rfl rfl (fun wq hq => ev_load one23 rfl (hq.1.cell' hc130 (by have := hI9.rng (Nat.lt_of_le_of_lt (Nat.zero_le _) hl130); omega))) ?_
                  refine PZ_q rfl rfl rfl (fun wq hq => ev_fieldAddr fo31_0 rfl) ?_
                  refine PZ_q rfl rfl rfl (fun wq hq => ev_load one29 rfl ((hB6.rg hq.1 (by omega)).cell rfl)) ?_
                  refine PZ_q rfl rfl rfl (fun wq hq => ev_move rfl) ?_
                  have hl135 : k < B.ends.length := by omega
                  have ht135 := totL_le hl135
                  obtain ⟨a135, c135, hc135, hr135⟩ := hB.ends.row hl135
                  refine PZ_q rfl rfl rfl (fun wq hq => ev_indexAddr Try.underlying29 sz56 rfl rfl (hB.ends.isSome (by omega)) (by omega) (by omega)) ?_
                  refine PZ_q rfl rfl rfl (fun wq hq => ev_load one56 rfl (hq.1.cell' hc135 (by have := hB.ends.rng (Nat.lt_of_le_of_lt (Nat.zero_le _) hl135); omega))) ?_
                  refine PZ_q rfl rfl rfl (fun wq hq => ev_move rfl) ?_
                  refine PZ_q rfl rfl rfl (fun wq hq => ev_indexAddr Try.underlying56 sz61 rfl rfl (hr135.isSome (by omega)) (by omega) (by omega)) ?_
                  refine PZ_q rfl rfl rfl (fun wq hq => ev_fieldAddr fo61_0 rfl) ?_
                  refine PZ_q rfl rfl rfl (fun wq hq => ev_load one3 rfl (by simpa using (hr135.rg hq.1 (by omega)).fst (i := u) (by omega))) ?_
                  refine PZ_q rfl rfl rfl (fun wq hq => ev_indexAddr Try.underlying23 sz3 rfl rfl (hr130.isSome (by omega)) (by omega) (by omega)) ?_
                  refine PZ_q rfl rfl rfl (fun wq hq => ev_load one3 rfl ((hr130.rg hq.1 (by omega)).cellJ (i := B.ends[k][u].1.toNat) (j := B.ends[k][u].1.toNat) (by omega) (by omega))) ?_
                  rw [numT_get (by omega) (by omega) s93]
                  refine PZ_q rfl rfl rfl (fun wq hq => ev_fieldAddr fo61_1 rfl) ?_
                  refine PZ_q rfl rfl rfl (fun wq hq => ev_load one3 rfl ((hB22.rg hq.1 (by omega)).cell rfl)) ?_
                  refine PZ_q rfl rfl rfl (fun wq hq => ev_build2 sn61_2 rfl rfl rfl rfl) ?_
                  refine PZ_m rfl rfl rfl (ev_lit1 Try.underlying56 el61 (by decide) (by decide) rfl rfl) ?_
                  rintro _ w146 ⟨rfl, hN146⟩
                  have hz146 := hN146.size
                  replace hE := hE.trans hN146.ext
                  replace hRL4 := hRL4.trans hN146.ext
                  replace hRL6 := hRL6.trans hN146.ext
                  replace hRL8 := hRL8.trans hN146.ext
                  replace hDd31 := hDd31.trans hN146.ext
                  replace hOA := hOA.ext hN146.ext
                  replace hO := hO.ext hN146.ext
                  have hB146 := hN146.blk
                  refine ⟨⟨hDd31, trivial⟩, ?_⟩
                  have hA_28 := hA.rg hDd31 (by omega)
                  have hB_28 := hB.rg hDd31 (by omega)
                  have hD_28 := hD.rg hDd31 (by omega)
                  have hff_28 := hff.rg hDd31 (by omega)
                  have hgg_28 := hgg.rg hDd31 (by omega)
                  have hB5_28 := hB5.rg hDd31 (by omega)
                  have hB6_28 := hB6.rg hDd31 (by omega)
                  have hB7_28 := hB7.rg hDd31 (by omega)
                  have hB10_28 := hB10.rg hDd31 (by omega)
                  have hI9_28 := hI9.rg hDd31 (by omega)
                  have hr95_28 := hr95.rg hDd31 (by omega)
                  have hB16_28 := hB16.rg hDd31 (by omega)
                  have hBi_28 := hBi.rg hDd31 (by omega)
                  have hr105_28 := hr105.rg hDd31 (by omega)
                  have hBk_28 := hBk.rg hDd31 (by omega)
                  have hB22_28 := hB22.rg hDd31 (by omega)
                  have hr130_28 := hr130.rg hDd31 (by omega)
                  have hr135_28 := hr135.rg hDd31 (by omega)
                  refine PZ_m rfl rfl rfl (ev_append Try.underlying56 el61 rfl (by decide) rfl rfl hO (SAt.of_blk (cs := [_, _]) (ds := []) hB146) rfl (by simp [Value.oneCell']) (by omega) (by unfold maxLen; omega) (by omega)) ?_
                  rintro _ w147 ⟨a147, c147, rfl, hO147, hK147, hQ147⟩
                  have hz147 := hK147.size
                  replace hE := hE.app hK147 (fun q hq => by have := (hO.block q hq).1; have := hOt q hq; omega)
                  replace hRL4 := hRL4.app hK147 (fun q hq => by have := (hO.block q hq).1; have := hOt q hq; omega)
                  replace hRL6 := hRL6.app hK147 (fun q hq => by have := (hO.block q hq).1; have := hOt q hq; omega)
                  replace hRL8 := hRL8.app hK147 (fun q hq => by have := (hO.block q hq).1; have := hOt q hq; omega)
                  replace hDd31 := hDd31.app hK147 (fun q hq => by have := (hO.block q hq).1; have := hOt q hq; omega)
                  replace hO := hO147
                  refine ⟨⟨hDd31, trivial⟩, ?_⟩
                  refine PZ_q rfl rfl rfl (fun wq hq => ev_indexAddr Try.underlying29 sz56 rfl rfl rfl (by omega) (by omega)) ?_
                  replace hA := hA.rg hDd31 (by omega)
                  replace hB := hB.rg hDd31 (by omega)
                  replace hD := hD.rg hDd31 (by omega)
                  replace hff := hff.rg hDd31 (by omega)
                  replace hgg := hgg.rg hDd31 (by omega)
                  replace hB5 := hB5.rg hDd31 (by omega)
                  replace hB6 := hB6.rg hDd31 (by omega)
                  replace hB7 := hB7.rg hDd31 (by omega)
                  replace hB10 := hB10.rg hDd31 (by omega)
                  replace hI9 := hI9.rg hDd31 (by omega)
                  replace hr95 := hr95.rg hDd31 (by omega)
                  replace hB16 := hB16.rg hDd31 (by omega)
                  replace hBi := hBi.rg hDd31 (by omega)
                  replace hr105 := hr105.rg hDd31 (by omega)
                  replace hBk := hBk.rg hDd31 (by omega)
                  replace hB22 := hB22.rg hDd31 (by omega)
                  replace hr130 := hr130.rg hDd31 (by omega)
                  replace hr135 := hr135.rg hDd31 (by omega)
                  refine PZ_z rfl (ev_store sz56 rfl rfl rfl hBk (by simp; omega)) ?_
                  rintro _ w31_30 hS31_30
                  have hz31_30 := hS31_30.size
                  replace hE := hE.sto hS31_30 (by omega)
                  replace hRL4 := hRL4.sto hS31_30 (by omega)
                  replace hRL6 := hRL6.sto hS31_30 (by omega)
                  replace hRL8 := hRL8.sto hS31_30 (by omega)
                  replace hA := hA.sto hS31_30 (by omega)
                  replace hB := hB.sto hS31_30 (by omega)
                  replace hD := hD.sto hS31_30 (by omega)
                  replace hff := hff.sto hS31_30 (by omega)
                  replace hgg := hgg.sto hS31_30 (by omega)
                  replace hB5 := hB5.sto hS31_30 (by omega)
                  replace hB6 := hB6.sto hS31_30 (by omega)
                  replace hB7 := hB7.sto hS31_30 (by omega)
                  replace hB10 := hB10.sto hS31_30 (by omega)
                  replace hI9 := hI9.sto hS31_30 (by omega)
                  replace hr95 := hr95.sto hS31_30 (by omega)
                  replace hB16 := hB16.sto hS31_30 (by omega)
                  replace hBi := hBi.sto hS31_30 (by omega)
                  replace hr105 := hr105.sto hS31_30 (by omega)
                  replace hB22 := hB22.sto hS31_30 (by omega)
                  replace hr130 := hr130.sto hS31_30 (by omega)
                  replace hr135 := hr135.sto hS31_30 (by omega)
                  replace hO := hO.sto hS31_30 (by omega)
                  replace hBk := hS31_30.blk
                  have hR3 := NR.put hbl hOA (by omega) hiv hvm (by omega) hvj (by omega) hK147 ((own_snocP hO147).mono (by omega)) (by simp) hQ147 hS31_30 (by omega) hBk
                  refine PW_nil ?_
                  refine blockE_n ?_
                  refine thenE_n ?_
                  refine W_region ?_
                  refine WL_q rfl (ev_add rfl rfl (by omega)) ?_
                  refine WL_q rfl (ev_move rfl) ?_
                  refine WL_nil ?_
                  refine thenE_n ?_
                  have hps := prow_snoc hH hilt hlk hlu hluB (e := ((num ff gg B.ends.length A.ends[i][u].1.toNat B.ends[k][u].1.toNat : Int), A.ends[i][u].2)) rfl
                  exact ⟨u + 1, (Subs.c rfl (Subs.c rfl (Subs.c rfl (Subs.c rfl (Subs.c rfl (Subs.c rfl (Subs.c rfl (Subs.c rfl (Subs.c rfl (Subs.c rfl (Subs.c rfl (Subs.c rfl (Subs.c rfl (Subs.c rfl (Subs.c rfl (Subs.c rfl Subs.n)))))))))))))))), (Subs.c (lkI rfl (by omega)) Subs.n), ⟨hRL8, ⟨by omega, hR3.to (by rw [hxr, List.set_set, hfr, hps])⟩⟩, by first | omega | (dsimp only; omega)⟩
                · have hp115 := of_decide_eq_false hg115
                  refine W_exit ?_
                  refine thenE_x ?_
                  refine thenE_x ?_
                  refine blockE_hit ?_
                  refine thenE_n ?_
                  refine W_drawK (d88) (fun w' => True) [(0, true), (1, true), (2, true), (3, true), (4, true), (5, true), (6, true), (7, true), (8, true), (9, false)] mixed (by kernel_rfl) rfl (by kernel_rfl) (fun _ _ => trivial) ?_
                  intro wd33 hEd33 hzd33
                  replace hE := hE.trans hEd33
                  replace hRL4 := hRL4.trans hEd33
                  replace hRL6 := hRL6.trans hEd33
                  replace hA := hA.ext hEd33
                  replace hB := hB.ext hEd33
                  replace hD := hD.ext hEd33
                  replace hff := hff.ext hEd33
                  replace hgg := hgg.ext hEd33
                  replace hB5 := hB5.ext hEd33
                  replace hB6 := hB6.ext hEd33
                  replace hB7 := hB7.ext hEd33
                  replace hB10 := hB10.ext hEd33
                  replace hI9 := hI9.ext hEd33
                  replace hr95 := hr95.ext hEd33
                  replace hB16 := hB16.ext hEd33
                  replace hBi := hBi.ext hEd33
                  replace hr105 := hr105.ext hEd33
                  have hDd33 := KX.refl (d88) wd33
                  refine PW_q rfl rfl (fun wq hq => ev_fieldAddr fo31_2 rfl) ?_
                  refine PW_q rfl rfl (fun wq hq => ev_load one23 rfl ((hB16.kx hq.1 (by omega)).cell rfl)) ?_
                  refine PW_q rfl rfl (fun wq hq => ev_move rfl) ?_
                  refine PW_q rfl rfl (fun wq hq => ev_fieldAddr fo31_2 rfl) ?_
                  refine PW_q rfl rfl (fun wq hq => ev_load one23 rfl ((hB5.kx hq.1 (by omega)).cell rfl)) ?_
                  refine PW_q rfl rfl (fun wq hq => ev_move rfl) ?_
                  refine PW_q rfl rfl (fun wq hq => ev_indexAddr Try.underlying23 sz3 rfl rfl (hA.inputs.isSome (by omega)) (by omega) (by omega)) ?_
                  refine PW_q rfl rfl (fun wq hq => ev_load one3 rfl ((hA.inputs.kx hq.1 (by omega)).cellJ (i := i) (j := Int.toNat ((i : Nat) : Int)) (by omega) (by omega))) ?_
                  refine PW_q rfl rfl (fun wq hq => ev_indexAddr Try.underlying23 sz3 rfl rfl rfl (by omega) (by omega)) ?_
                  refine PW_s rfl (ev_store sz3 rfl rfl rfl hBi (by simp; omega)) ?_
                  rintro _ w33_9 hS33_9
                  have hz33_9 := hS33_9.size
                  replace hE := hE.sto hS33_9 (by omega)
                  replace hRL4 := hRL4.sto hS33_9 (by omega)
                  replace hRL6 := hRL6.sto hS33_9 (by omega)
                  replace hDd33 := hDd33.sto hS33_9 (by omega)
                  replace hBi := hS33_9.blk
                  replace hBi := iset (i := p) (by omega) hBi
                  have hu9 : u = (fibR A B ff gg p).length := by omega
                  rw [hu9, List.take_length] at hR
                  replace hR := (((hR.any (i' := p + 1)).to (mixF_set (f := fibR A B ff gg) (by simpa using hplt))).ext hEd33).sto2 hS33_9 (by omega) (by omega)
                  rw [fiL_put (by omega) (by have := fibI_at (A := A) (B := B) (f := ff) (g := gg) hilt hlk he9 (by omega) (by omega); simp only [hpp] at this; exact this)] at hBi
                  refine ⟨⟨hDd33, trivial⟩, ?_⟩
                  replace hA := hA.kx hDd33 (by omega)
                  replace hB := hB.kx hDd33 (by omega)
                  replace hD := hD.kx hDd33 (by omega)
                  replace hff := hff.kx hDd33 (by omega)
                  replace hgg := hgg.kx hDd33 (by omega)
                  replace hB5 := hB5.kx hDd33 (by omega)
                  replace hB6 := hB6.kx hDd33 (by omega)
                  replace hB7 := hB7.kx hDd33 (by omega)
                  replace hB10 := hB10.kx hDd33 (by omega)
                  replace hI9 := hI9.kx hDd33 (by omega)
                  replace hr95 := hr95.kx hDd33 (by omega)
                  replace hB16 := hB16.kx hDd33 (by omega)
                  replace hr105 := hr105.kx hDd33 (by omega)
                  refine PW_nil ?_
                  refine blockE_n ?_
                  refine thenE_n ?_
                  refine W_region ?_
                  refine WL_q rfl (ev_add rfl rfl (by omega)) ?_
                  refine WL_q rfl (ev_move rfl) ?_
                  refine WL_nil ?_
                  refine thenE_n ?_
                  have hpq : (pl ff gg B.ends.length i (k + 1)).length = p + 1 := by rw [← hpy9 he9, List.length_append, hpp]; rfl
                  exact ⟨k + 1, (Subs.c rfl (Subs.c rfl (Subs.c rfl (Subs.c rfl (Subs.c rfl (Subs.c rfl (Subs.c rfl (Subs.c rfl (Subs.c rfl (Subs.c rfl (Subs.c rfl Subs.n))))))))))), (Subs.c (lkI rfl (by omega)) Subs.n), ⟨hRL6, ⟨by omega, hB16, by rw [hpq]; exact hR.up (by omega), by rw [hpq]; exact hBi⟩⟩, by first | omega | (dsimp only; omega)⟩
            · have hp101 := of_decide_eq_false hg101
              refine W_exit ?_
              refine thenE_x ?_
              refine thenE_x ?_
              refine blockE_hit ?_
              refine blockE_n ?_
              refine thenE_n ?_
              refine W_region ?_
              refine WL_q rfl (ev_add rfl rfl (by omega)) ?_
              refine WL_q rfl (ev_move rfl) ?_
              refine WL_nil ?_
              refine thenE_n ?_
              have hk9 : k = B.ends.length := by omega
              rw [← hpp, hk9] at hR hBi
              exact ⟨i + 1, (Subs.c rfl (Subs.c rfl (Subs.c rfl (Subs.c rfl (Subs.c rfl (Subs.c rfl (Subs.c rfl Subs.n))))))), (Subs.c (lkI rfl (by omega)) Subs.n), ⟨hRL4, ⟨by omega, hB16, hR, hBi⟩⟩, by first | omega | (dsimp only; omega)⟩
          · have hp93 := of_decide_eq_false hg93
            refine W_exit ?_
            refine thenE_x ?_
            refine thenE_x ?_
            refine blockE_hit ?_
            refine thenE_n ?_
            refine W_seq ?_
            refine W_region ?_
            have hi9 : i = A.ends.length := by omega
            subst hi9
            replace hR := hR.to (show _ = (fibP A B ff gg).ends by rw [mixF_full (by simp), List.length_replicate]; exact fibR_all)
            rw [fiL_full (by omega)] at hBi
            refine WL_q rfl (ev_loads st31 sz31 rfl (cellsB hB16) rfl) ?_
            refine WL_s (ev_stores sz31 rfl rfl rfl (by simp [Value.oneCell']) hB10 (by simp)) ?_
            rintro _ w36_1 hS36_1
            have hz36_1 := hS36_1.size
            replace hE := hE.sto hS36_1 (by omega)
            replace hA := hA.sto hS36_1 (by omega)
            replace hB := hB.sto hS36_1 (by omega)
            replace hD := hD.sto hS36_1 (by omega)
            replace hff := hff.sto hS36_1 (by omega)
            replace hgg := hgg.sto hS36_1 (by omega)
            replace hB5 := hB5.sto hS36_1 (by omega)
            replace hB6 := hB6.sto hS36_1 (by omega)
            replace hB7 := hB7.sto hS36_1 (by omega)
            replace hI9 := hI9.sto hS36_1 (by omega)
            replace hB16 := hB16.sto hS36_1 (by omega)
            replace hR := hR.sto hS36_1 (by omega)
            replace hBi := hBi.sto hS36_1 (by omega)
            replace hB10 : Blk w36_1 _ _ [_, _, _] := hS36_1.blk
            refine WL_q rfl (ev_assign rfl) ?_
            refine WL_nil ?_
            refine thenE_n ?_
            refine W_ret ?_
            refine retc2 rfl rfl st31 sz31 (cellsB hB10) rfl rfl ?_
            first | (exact ⟨⟨none, 0, none, 0, none, 0⟩, ⟨[], [], []⟩, _, rfl, .no (fun h => hp26 ⟨h.1.a, h.1.d, h.1.pf⟩), ⟨Nest.nil, Ints.nil, Ints.nil⟩, by decide, hE⟩) | (exact ⟨⟨none, 0, none, 0, none, 0⟩, ⟨[], [], []⟩, _, rfl, .no (fun h => hp32 ⟨h.1.b, h.1.d, h.1.pg⟩), ⟨Nest.nil, Ints.nil, Ints.nil⟩, by decide, hE⟩) | (exact ⟨⟨none, 0, none, 0, none, 0⟩, ⟨[], [], []⟩, _, rfl, .no (fun h => tf hg84 (inR_true.2 (by have h7 : 1 ≤ (ftN ff gg B.ends.length A.ends.length).length := h.2.1; have h8 : (ftN ff gg B.ends.length A.ends.length).length ≤ 40 := h.2.2; omega))), ⟨Nest.nil, Ints.nil, Ints.nil⟩, by decide, hE⟩) | (obtain ⟨vs, hbl, hBk, hOA, hvm, hvj⟩ := hR; have h7 := inR_true.1 hg84; exact ⟨⟨some ⟨b88, 0, none⟩, (ftN ff gg B.ends.length A.ends.length).length, none, 0, some ⟨d88, 0, none⟩, (ftN ff gg B.ends.length A.ends.length).length⟩, fibP A B ff gg, _, by simp [netV, fibP], .yes ⟨hH, by show 1 ≤ (ftN ff gg B.ends.length A.ends.length).length; omega, by show (ftN ff gg B.ends.length A.ends.length).length ≤ 40; omega⟩ rfl, net_blocks (hOA.prows.mono (by omega) (by omega)) hBk ⟨by omega, by omega⟩ hBi ⟨by omega, by omega⟩ rfl fib_lens.1 fib_lens.2, fib_tot hH, hE⟩)

end Go.Proofs.Ytladejfcplpnaaa
