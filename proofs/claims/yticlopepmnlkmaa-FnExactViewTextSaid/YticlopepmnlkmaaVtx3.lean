/- A strings.Builder that a call makes, in the words of the contracts here; the amounts of views. -/
import Derived.Shelf.Strings.Builder1
import Derived.Shelf.Strings.Builder2
import Derived.Test.YticlopepmnlkmaaVtx2
import Derived.Test.YticlopepmnlkmaaEdges
namespace Go.Proofs.Yticlopepmnlkmaa
open Go Go.RowKit

section
variable {P : Program} {fn : Func} {R : Value → World → Prop} {L : Env} {w : World}
theorem ret0 (hr : fn.results = #[]) (h : R (.tuple #[]) w) : bodyE P fn R .ret L w := ⟨_, fun tmps ht => by simp [results, hr], h⟩
theorem ret0n (hr : fn.results = #[]) (h : R (.tuple #[]) w) : bodyE P fn R .normal L w := ⟨_, fun tmps ht => by simp [results, hr], h⟩
theorem ev_nilCheck {x : Operand} {ty : TypeId} {b o : Nat} (hx : ev L x = some (ptr b o)) : EvR P L (.nilCheck x) ty w (ptr b o) := by
  intro ρ hρ d p f g
  simp [execOp, hρ x _ hx]
theorem ev_lit3V {x0 x1 x2 : Operand} {T E ty : TypeId} {u a b c : Value} {by' : Nat} (ht : P.underlying T = some (.slice E)) (he : elem? P E = some (u, 1, by')) (h0 : ev L x0 = some a) (h1 : ev L x1 = some b) (h2 : ev L x2 = some c) (ha : a.cells = #[a]) (hb : b.cells = #[b]) (hc : c.cells = #[c]) :
    EvM P L (.buildSlice T 3 #[(0, x0), (1, x1), (2, x2)]) ty w (fun r w' => r = .slice (some ⟨w.heap.size, 0, none⟩) 3 3 ∧ New w w' E [a, b, c]) := by
  intro ρ hρ d p f g
  obtain ⟨i, hi, hz, hsi, hby⟩ := elem_parts he
  have hsz' : size? P E = some 1 := by simp [size?, hi, hsi]
  have hzz : zero? P E = some u := by simp [zero?, hi, hz]
  have hgt : ¬ (3 * 1 > 2 ^ 24) := by omega
  have hne : ¬ (3 * 1 = 0) := by omega
  have hbase : ((Array.range (3 * 1)).map fun j => u.cells[j % u.cells.size]!) = [u.cells[0 % u.cells.size]!, u.cells[1 % u.cells.size]!, u.cells[2 % u.cells.size]!].toArray := by
    apply Array.ext <;> simp
    intro i hi _
    match i, hi with
    | 0, _ => rfl
    | 1, _ => rfl
    | 2, _ => rfl
    | n + 3, h => omega
  have hfill : Instr.fill (fun i => some (i * 1, 1)) ((Array.range (3 * 1)).map fun j => u.cells[j % u.cells.size]!) [(0, a), (1, b), (2, c)] = some #[a, b, c] := by
    rw [hbase]
    have := fill_set (fun i => some (i * 1, 1)) [(0, a), (1, b), (2, c)] [u.cells[0 % u.cells.size]!, u.cells[1 % u.cells.size]!, u.cells[2 % u.cells.size]!] (by
      intro p hp
      simp at hp
      rcases hp with rfl | rfl | rfl
      · exact ⟨rfl, by simp, ha⟩
      · exact ⟨rfl, by simp, hb⟩
      · exact ⟨rfl, by simp, hc⟩)
    rw [this]
    rfl
  have := New.mk' w E [a, b, c]
  simp only [execOp, Instr.buildSlice, Sem.run_bind, run_underlying ht, Result.andThen_ok, run_sizeOf hsz', List.map_toArray, List.map_cons, List.map_nil, hρ x0 _ h0, hρ x1 _ h1, hρ x2 _ h2, Sem.run_ite, hgt, if_false, hne, run_zero hzz, Sem.run_pure, hfill, newRow, run_newObj_alloc, OpOk]
  exact ⟨trivial, this⟩
end
/-- All that was there but two blocks. -/
def K2 (b g : Nat) (w w' : World) : Prop := Keep (fun k => k < w.heap.size ∧ k ≠ b ∧ k ≠ g) w w'
section
variable {b g b' g' lo hi : Nat} {w0 w w' : World}
theorem K2.size (h : K2 b g w w') : w.heap.size ≤ w'.heap.size := Keep.size h
theorem K2.refl : K2 b g w w := Keep.refl _ _
theorem K2.trans (h : K2 b g w0 w) (k : Ext w w') : K2 b g w0 w' := Keep.trans h (k.mono fun i hi => Nat.lt_of_lt_of_le hi.1 h.size)
theorem K2.sto {x : Nat} {T : TypeId} {ds : List Value} (h : K2 b g w0 w) (k : Sto w w' x T ds) (hb : x = b ∨ x = g ∨ w0.heap.size ≤ x) : K2 b g w0 w' := Keep.trans h (k.keep.mono fun i hi => by show i ≠ x; have := hi.1; have := hi.2; omega)
theorem K2.kx {x : Nat} (h : K2 b g w0 w) (k : KX x w w') (hb : x = b ∨ x = g ∨ w0.heap.size ≤ x) : K2 b g w0 w' := Keep.trans h (k.mono fun i hi => ⟨Nat.lt_of_lt_of_le hi.1 h.size, by have := hi.1; have := hi.2; omega⟩)
theorem K2.app {a : Option Addr} (h : K2 b g w0 w) (k : Apd w w' a) (hb : ∀ q, a = some q → q.block = b ∨ q.block = g ∨ w0.heap.size ≤ q.block) : K2 b g w0 w' := Keep.trans h (k.mono fun i hi => ⟨Nat.lt_of_lt_of_le hi.1 h.size, fun q hq => by have := hb q hq; have := hi.1; have := hi.2; omega⟩)
theorem K2.k2 (h : K2 b g w0 w) (k : K2 b' g' w w') (hb : (b' = b ∨ b' = g ∨ w0.heap.size ≤ b') ∧ (g' = b ∨ g' = g ∨ w0.heap.size ≤ g')) : K2 b g w0 w' := Keep.trans h (k.mono fun i hi => ⟨Nat.lt_of_lt_of_le hi.1 h.size, by have := hi.1; have := hi.2; omega⟩)
theorem Ext.k2 (h : Ext w0 w) (k : K2 b g w w') (hb : w0.heap.size ≤ b ∧ w0.heap.size ≤ g) : Ext w0 w' := Keep.trans h (k.mono fun i hi => ⟨Nat.lt_of_lt_of_le hi h.size, by have : i < w0.heap.size := hi; omega⟩)
theorem Lo.k2 {x : Nat} (h : Lo x w0 w) (k : K2 b g w w') (hb : x ≤ b ∧ x ≤ g) : Lo x w0 w' := ⟨h.1, Keep.trans h.2 (k.mono fun i hi => by have := h.1; have := h.size; have : i < x := hi; exact ⟨by omega, by omega⟩)⟩
theorem Rg.k2 {l0 h0 p q : Nat} (h : Rg l0 h0 p q w0 w) (k : K2 b g w w') (hb : ((l0 ≤ b ∧ b < h0 ∧ (q ≤ p ∨ b < p ∨ q ≤ b)) ∨ w0.heap.size ≤ b) ∧ ((l0 ≤ g ∧ g < h0 ∧ (q ≤ p ∨ g < p ∨ q ≤ g)) ∨ w0.heap.size ≤ g)) : Rg l0 h0 p q w0 w' := Keep.trans h (k.mono fun i hi => ⟨Nat.lt_of_lt_of_le hi.1 h.size, by have := hi.1; have := hi.2; omega⟩)
theorem K2.toLo (k : K2 b g w w') {x : Nat} (hx : x ≤ w.heap.size ∧ x ≤ b ∧ x ≤ g) : Lo x w w' := ⟨hx.1, k.mono fun i hi => by have : i < x := hi; exact ⟨by omega, by omega⟩⟩
theorem Blk.k2 {x : Nat} {T : TypeId} {cs : List Value} (h : Blk w x T cs) (k : K2 b g w w') (hb : x ≠ b ∧ x ≠ g) : Blk w' x T cs := h.keep k ⟨h.lt, hb⟩
theorem IsNet.k2 {h : NA} {m : Net} (x : IsNet lo hi w h m) (k : K2 b g w w') (hb : hi ≤ w.heap.size ∧ hi ≤ b ∧ hi ≤ g) : IsNet lo hi w' h m := x.lo (k.toLo hb) (Nat.le_refl _)
theorem Pairs.k2 {a : Option Addr} {c : Nat} {xs : List (Int × Int)} (h : Pairs lo hi w a c xs) (k : K2 b g w w') (hb : hi ≤ w.heap.size ∧ hi ≤ b ∧ hi ≤ g) : Pairs lo hi w' a c xs := h.keep k fun i h1 h2 => ⟨by omega, by omega⟩
theorem SAt.k2 {a : Option Addr} {cs : List Value} (h : SAt lo hi w a cs) (k : K2 b g w w') (hb : hi ≤ w.heap.size ∧ (b < lo ∨ hi ≤ b) ∧ (g < lo ∨ hi ≤ g)) : SAt lo hi w' a cs := h.keep k fun i h1 h2 => ⟨by omega, by omega⟩
end
/-- A builder in block b, its bytes in block g. -/
structure BW (T E : TypeId) (lo b g : Nat) (w : World) (l : List UInt8) : Prop where
  low : lo ≤ b ∧ lo ≤ g ∧ g < w.heap.size
  is : ∃ p a c, Blk w b T [p, .slice a l.length c] ∧ (p = .pointer none ∨ p = ptr b 0) ∧ Own lo w E 1 a l.length c (Lib.byteCells l) ∧ ∀ q, a = some q → q.block = g ∧ g ≠ b
section
variable {T E : TypeId} {lo b g : Nat} {w w' : World} {l : List UInt8}
theorem BW.lt (h : BW T E lo b g w l) : b < w.heap.size := by obtain ⟨p, a, c, hB, _⟩ := h.is; exact hB.lt
theorem BW.keep {F : Nat → Prop} (h : BW T E lo b g w l) (k : Keep F w w') (h1 : F b) (h2 : F g) : BW T E lo b g w' l := by
  obtain ⟨p, a, c, hB, hp, hO, hg⟩ := h.is
  exact ⟨⟨h.low.1, h.low.2.1, Nat.lt_of_lt_of_le h.low.2.2 k.size⟩, p, a, c, hB.keep k h1, hp, hO.keep k fun q hq => by rw [(hg q hq).1]; exact h2, hg⟩
theorem BW.ext (h : BW T E lo b g w l) (k : Ext w w') : BW T E lo b g w' l := h.keep k h.lt h.low.2.2
theorem BW.sto {x : Nat} {D : TypeId} {ds : List Value} (h : BW T E lo b g w l) (k : Sto w w' x D ds) (hb : x ≠ b ∧ x ≠ g) : BW T E lo b g w' l := h.keep k.keep (Ne.symm hb.1) (Ne.symm hb.2)
theorem BW.rg {lo' hi' p q : Nat} (h : BW T E lo b g w l) (k : Rg lo' hi' p q w w') (hb : (b < lo' ∨ hi' ≤ b ∨ (p ≤ b ∧ b < q)) ∧ (g < lo' ∨ hi' ≤ g ∨ (p ≤ g ∧ g < q))) : BW T E lo b g w' l := h.keep k ⟨h.lt, hb.1⟩ ⟨h.low.2.2, hb.2⟩
theorem BW.to {l' : List UInt8} (h : BW T E lo b g w l) (e : l = l') : BW T E lo b g w l' := e ▸ h
end
theorem byte_app (a b : List UInt8) : Lib.byteCells (a ++ b) = Lib.byteCells a ++ Lib.byteCells b := by simp [Lib.byteCells]
theorem byte_one (a : List UInt8) : ∀ u ∈ Lib.byteCells a, u.oneCell' = true := by
  intro u hu
  obtain ⟨x, _, rfl⟩ := List.mem_map.1 (show u ∈ a.map _ from hu)
  rfl
open Go.Shelf in
def strLays_ren : Go.Shelf.Ren := ⟨fun | 169 => 23 | n => n, fun | 70 => 48 | 9 => 9 | 0 => 0 | 72 => 51 | 37 => 49 | 127 => 72 | 3 => 3 | 5 => 5 | n => n, fun | n => n⟩
open Go.Shelf in
theorem strLays : Go.Proofs.Lays.n169 Try.prog strLays_ren := {
  mixed := by kernel_rfl
  f169 := Try.func23.trans (congrArg some (by kernel_rfl))
  t0 := Try.underlying0
  a0 := Try.isAgg0
  z0 := Try.sizeOf0
  v0 := Try.zeroValue0
  t3 := Try.underlying3
  a3 := Try.isAgg3
  z3 := Try.sizeOf3
  v3 := Try.zeroValue3
  t9 := Try.underlying9
  a9 := Try.isAgg9
  z9 := Try.sizeOf9
  v9 := Try.zeroValue9
  t37 := Try.underlying49
  a37 := Try.isAgg49
  z37 := Try.sizeOf49
  v37 := Try.zeroValue49
  t70 := Try.underlying48
  a70 := Try.isAgg48
  z70 := Try.sizeOf48
  v70 := Try.zeroValue48
  t72 := Try.underlying51
  a72 := Try.isAgg51
  z72 := Try.sizeOf51
  v72 := Try.zeroValue51
  t127 := Try.underlying72
  a127 := Try.isAgg72
  z127 := Try.sizeOf72
  v127 := Try.zeroValue72 }
theorem strExtra : Builder.Extra Try.prog strLays_ren where
  sizeBuilder := by kernel_rfl
  liesBuilder := by kernel_rfl
  t5 := Try.underlying5
  a5 := Try.isAgg5
  z5 := Try.sizeOf5
  v5 := Try.zeroValue5
  infoByte := by kernel_rfl
  cellsByte := by kernel_rfl
  sizeByte := by kernel_rfl
  neB5 := by decide
theorem builder_size : (Try.prog.info? 51).map (·.size) = some 2 := by kernel_rfl
theorem builder_lies : liesAt Try.prog Try.prog.depth 51 (2 / Try.prog.cellsOf 51) 0 51 1 = true := by kernel_rfl
section
open Go.Shelf
set_option maxHeartbeats 1000000 in
set_option maxRecDepth 100000 in
theorem copyCheck_used (b : Nat) (w : World) (h0 : w.cell? ⟨b, 0, none⟩ = some (.pointer (some ⟨b, 0, none⟩))) :
    Calls Try.prog 47 #[.pointer (some ⟨b, 0, none⟩)] w fun e w' => e = .returned (.tuple #[]) ∧ w' = w := by
  obtain ⟨j, hj, _⟩ := Option.map_eq_some_iff.1 builder_size
  go_enter Try.func47, Try.ntmps47
  go_wp2
  rw [Lib.run_neq_ptr_same w _ Try.underlying48 hj]
  go_wp2
  go_end0
  exact ⟨rfl, rfl⟩
set_option maxHeartbeats 1000000 in
set_option maxRecDepth 100000 in
theorem copyCheck_fresh (b : Nat) (w : World) (h0 : w.cell? ⟨b, 0, none⟩ = some (.pointer none)) (hsh : w.shape? b = some (51, 2)) (hfz : w.frozen? ⟨b, 0, none⟩ = false) :
    Calls Try.prog 47 #[.pointer (some ⟨b, 0, none⟩)] w fun e w' => e = .returned (.tuple #[]) ∧ w' = w.setCell ⟨b, 0, none⟩ (.pointer (some ⟨b, 0, none⟩)) := by
  obtain ⟨j, hj, hjs⟩ := Option.map_eq_some_iff.1 builder_size
  go_enter Try.func47, Try.ntmps47
  go_wp2
  rw [Lib.run_to_unsafe w ⟨b, 0, none⟩ Try.underlying48 Try.underlying83 hj (by rw [hjs]; decide) hsh (Nat.zero_lt_succ 1)]
  simp only [Result.andThen]
  rw [Oper.upon_value]
  go_wp2
  rw [run_callFunc_extern Try.func54 (by kernel_rfl) (by kernel_rfl) (by kernel_rfl) (e := Extern.AbiNoEscape.same) (by kernel_rfl)]
  rw [Lib.run_noEscape]
  simp only [Result.andThen]
  rw [Oper.upon_value]
  go_wp2
  rw [Lib.run_from_unsafe w ⟨b, 0, none⟩ Try.underlying83 Try.underlying48 hj hsh builder_lies]
  simp only [Result.andThen]
  rw [Oper.upon_value]
  go_wp2
  go_end0
  exact ⟨rfl, rfl⟩
end
theorem copyCheck_spec (b : Nat) (p s : Value) (w : World) (hB : Blk w b 51 [p, s]) (hp : p = .pointer none ∨ p = ptr b 0) : Fn Try.prog 47 #[ptr b 0] w (fun v w' => v = .tuple #[] ∧ Blk w' b 51 [ptr b 0, s] ∧ KX b w w') := by
  have hc : w.cell? ⟨b, 0, none⟩ = some p := hB.cell rfl
  have hlt := hB.lt
  refine ⟨by kernel_rfl, ?_⟩
  rcases hp with rfl | rfl
  · have hsh : w.shape? b = some (51, 2) := by unfold Blk at hB; simp [World.shape?, hB]
    have hfz : w.frozen? ⟨b, 0, none⟩ = false := by unfold Blk at hB; simp [World.frozen?, hB]
    refine (copyCheck_fresh b w hc hsh hfz).mono ?_
    rintro e w' ⟨rfl, rfl⟩
    refine ⟨_, rfl, rfl, ?_, ⟨rfl, rfl, rfl, by simp [World.setCell], fun k hk => Below.heap_setCell _ _ _ _ hk.2⟩⟩
    unfold Blk at hB ⊢
    simp only [World.setCell, Array.getElem?_modify, if_true, hB, Option.map_some]
    rfl
  · refine (copyCheck_used b w hc).mono ?_
    rintro e w' ⟨rfl, rfl⟩
    exact ⟨_, rfl, rfl, hB, KX.refl _ _⟩
theorem String_spec {lo g : Nat} (b : Nat) (l : List UInt8) (w : World) (h : BW 51 5 lo b g w l) (hl : l ≠ []) : Fn Try.prog 23 #[ptr b 0] w (fun v w' => v = .string (bs l) ∧ Lo lo w w') := by
  obtain ⟨p, a, c, hB, hp, hO, hg⟩ := h.is
  have hA : Lib.BuilderAt 51 5 lo b p (Lib.byteCells l) w := ⟨h.low.1, .slice a l.length c, hB, by rw [Lib.byteCells_length]; exact hO, by
    cases a with
    | none => simp [Value.ownBlock]
    | some q =>
      have h1 := hg q rfl
      simp [Value.ownBlock]
      omega⟩
  have hI : Lib.IsBuilder 51 5 lo b (Lib.byteCells l) w := by
    rcases hp with rfl | rfl
    · exact .inl hA
    · exact .inr hA
  refine ⟨by kernel_rfl, (Any.Builder_String strLays strExtra lo b l w hI hl).mono ?_⟩
  rintro e w' ⟨rfl, hb⟩
  exact ⟨_, rfl, rfl, by have := h.low; omega, ⟨hb.os, hb.tape, hb.output, hb.size, hb.block⟩⟩

set_option maxRecDepth 100000 in
theorem Write_spec {lo : Nat} (b g : Nat) (l : List UInt8) {x : Nat} (ds : List UInt8) (m c2 : Nat) (w : World) (hb : BW 51 5 lo b g w l) (hlo : lo ≤ w.heap.size) (hs : SAt x (x + 1) w (some ⟨x, 0, none⟩) (Lib.byteCells ds)) (hx : x < w.heap.size ∧ x ≠ b ∧ x ≠ g) (hm : ds.length = m) (hn : l.length + m ≤ 1048576) :
    Fn Try.prog 36 #[ptr b 0, .slice (some ⟨x, 0, none⟩) m c2] w (fun o9 w' => o9 = .tuple #[VI (m : Int), .nilIface] ∧ ∃ g', BW 51 5 lo b g' w' (l ++ ds) ∧ (g' = g ∨ w.heap.size ≤ g') ∧ K2 b g w w') := by
  have hK2 : K2 b g w w := K2.refl
  obtain ⟨⟨hl1, hl2, hl3⟩, p, a, c, hB, hp, hO, hg⟩ := hb
  have hlt := hB.lt
  refine Fn_of Try.func36 rfl rfl (by kernel_rfl) rfl ?_
  refine W_seq ?_
  refine W_region ?_
  refine WL_q rfl (ev_assign rfl) ?_
  refine WL_q rfl (ev_assign rfl) ?_
  refine WL_nil ?_
  refine thenE_n ?_
  refine W_seq ?_
  refine W_region ?_
  refine WL_q rfl (ev_move rfl) ?_
  refine WL_m rfl (ev_call rfl (copyCheck_spec b _ _ _ hB hp)) ?_
  rintro _ w7 ⟨rfl, hB, hK7⟩
  have hz7 := hK7.size
  have hO2 := hO.keep hK7 fun q hq => ⟨(hO.block q hq).2, by have := hg q hq; omega⟩
  replace hK2 := hK2.kx hK7 (by omega)
  replace hs := hs.kx hK7 (by omega)
  refine WL_nil ?_
  refine thenE_n ?_
  refine W_seq ?_
  refine W_region ?_
  refine WL_q rfl (ev_move rfl) ?_
  refine WL_q rfl (ev_move rfl) ?_
  refine WL_q rfl (ev_nilCheck rfl) ?_
  refine WL_q rfl (ev_fieldAddr fo51_1 rfl) ?_
  refine WL_q rfl (ev_load one49 rfl (hB.cell rfl)) ?_
  refine WL_q rfl (ev_move rfl) ?_
  refine WL_m rfl (ev_append Try.underlying49 el5 rfl (by decide) rfl rfl hO2 hs (by rw [Lib.byteCells_length]; omega) (byte_one _) (by omega) (by unfold maxLen; omega) (by omega)) ?_
  rintro _ w14 ⟨a14, c14, rfl, hO14, hK14, hQ14⟩
  have hz14 := hK14.size
  replace hK2 := hK2.app hK14 (fun q hq => by have h1 := hg q hq; omega)
  have hO2 := hO14
  replace hB := hB.keep hK14 ⟨hB.lt, fun q hq => by have h1 := hg q hq; omega⟩
  refine WL_q rfl (ev_nilCheck rfl) ?_
  refine WL_q rfl (ev_fieldAddr fo51_1 rfl) ?_
  refine WL_s (ev_store sz49 rfl rfl rfl hB (by simp)) ?_
  rintro _ w2_9 hS2_9
  have hz2_9 := hS2_9.size
  replace hK2 := hK2.sto hS2_9 (by omega)
  replace hB := hS2_9.blk
  refine WL_nil ?_
  refine thenE_n ?_
  refine W_seq ?_
  refine W_region ?_
  refine WL_q rfl (ev_move rfl) ?_
  refine WL_q rfl (ev_len Try.underlying49 rfl) ?_
  refine WL_q rfl (ev_assign rfl) ?_
  refine WL_q rfl (ev_assign rfl) ?_
  refine WL_nil ?_
  refine thenE_n ?_
  refine W_ret ?_
  refine ret2 rfl rfl rfl ?_
  obtain ⟨g9, hg9, hg8, hg7⟩ : ∃ g9, (∀ q, a14 = some q → q.block = g9 ∧ g9 ≠ b) ∧ (g9 = g ∨ w.heap.size ≤ g9) ∧ g9 < w2_9.heap.size ∧ lo ≤ g9 := by
    cases h9 : a14 with
    | none => exact ⟨g, fun q hq => (by cases hq), .inl rfl, by omega, hl2⟩
    | some q9 =>
      have h8 := hO2.block q9 h9
      rcases hQ14 q9 h9 with ⟨p8, hp8, e8⟩ | h7
      · have h6 := hg p8 hp8; exact ⟨q9.block, fun q hq => (by cases hq; exact ⟨rfl, by omega⟩), by omega, by omega, by omega⟩
      · exact ⟨q9.block, fun q hq => (by cases hq; exact ⟨rfl, by omega⟩), by omega, by omega, by omega⟩
  refine ⟨rfl, g9, ⟨⟨hl1, hg7.2, hg7.1⟩, ptr b 0, a14, c14, ?_, .inr rfl, ?_, hg9⟩, hg8, hK2⟩
  · rw [List.length_append, hm]; exact hB
  · rw [List.length_append, hm]; rw [byte_app]; exact hO2.keep hS2_9.keep fun q hq => (hg9 q hq).1 ▸ (hg9 q hq).2

set_option maxRecDepth 100000 in
theorem WriteByte_spec {lo : Nat} (b g : Nat) (l : List UInt8) (c0 : UInt8) (w : World) (hb : BW 51 5 lo b g w l) (hlo : lo ≤ w.heap.size) (hn : l.length ≤ 1048576) :
    Fn Try.prog 38 #[ptr b 0, .int .u8 (c0.toNat : Int)] w (fun o9 w' => o9 = .nilIface ∧ ∃ g', BW 51 5 lo b g' w' (l ++ [c0]) ∧ (g' = g ∨ w.heap.size ≤ g') ∧ K2 b g w w') := by
  have hK2 : K2 b g w w := K2.refl
  obtain ⟨⟨hl1, hl2, hl3⟩, p, a, c, hB, hp, hO, hg⟩ := hb
  have hlt := hB.lt
  refine Fn_of Try.func38 rfl rfl (by kernel_rfl) rfl ?_
  refine W_seq ?_
  refine W_region ?_
  refine WL_q rfl (ev_assign rfl) ?_
  refine WL_nil ?_
  refine thenE_n ?_
  refine W_seq ?_
  refine W_region ?_
  refine WL_q rfl (ev_move rfl) ?_
  refine WL_m rfl (ev_call rfl (copyCheck_spec b _ _ _ hB hp)) ?_
  rintro _ w6 ⟨rfl, hB, hK6⟩
  have hz6 := hK6.size
  have hO2 := hO.keep hK6 fun q hq => ⟨(hO.block q hq).2, by have := hg q hq; omega⟩
  replace hK2 := hK2.kx hK6 (by omega)
  refine WL_nil ?_
  refine thenE_n ?_
  refine W_seq ?_
  refine W_region ?_
  refine WL_q rfl (ev_move rfl) ?_
  refine WL_q rfl (ev_move rfl) ?_
  refine WL_q rfl (ev_nilCheck rfl) ?_
  refine WL_q rfl (ev_fieldAddr fo51_1 rfl) ?_
  refine WL_q rfl (ev_load one49 rfl (hB.cell rfl)) ?_
  refine WL_q rfl (ev_move rfl) ?_
  refine WL_m rfl (ev_lit1 Try.underlying49 el5 (by decide) (by decide) rfl rfl) ?_
  rintro _ w13 ⟨rfl, hN13⟩
  have hz13 := hN13.size
  replace hK2 := hK2.trans hN13.ext
  replace hB := hB.ext hN13.ext
  replace hO2 := hO2.ext hN13.ext
  have hB13 := hN13.blk
  refine WL_m rfl (ev_append Try.underlying49 el5 rfl (by decide) rfl rfl hO2 (SAt.of_blk (cs := [_]) (ds := []) hB13) rfl (by simp [Value.oneCell']) (by omega) (by unfold maxLen; omega) (by omega)) ?_
  rintro _ w14 ⟨a14, c14, rfl, hO14, hK14, hQ14⟩
  have hz14 := hK14.size
  replace hK2 := hK2.app hK14 (fun q hq => by have h1 := hg q hq; omega)
  have hO2 := hO14
  replace hB := hB.keep hK14 ⟨hB.lt, fun q hq => by have h1 := hg q hq; omega⟩
  refine WL_q rfl (ev_nilCheck rfl) ?_
  refine WL_q rfl (ev_fieldAddr fo51_1 rfl) ?_
  refine WL_s (ev_store sz49 rfl rfl rfl hB (by simp)) ?_
  rintro _ w2_10 hS2_10
  have hz2_10 := hS2_10.size
  replace hK2 := hK2.sto hS2_10 (by omega)
  replace hB := hS2_10.blk
  refine WL_nil ?_
  refine thenE_n ?_
  refine W_seq ?_
  refine W_region ?_
  refine WL_q rfl (ev_assign rfl) ?_
  refine WL_nil ?_
  refine thenE_n ?_
  refine W_ret ?_
  refine ret1 rfl rfl ?_
  obtain ⟨g9, hg9, hg8, hg7⟩ : ∃ g9, (∀ q, a14 = some q → q.block = g9 ∧ g9 ≠ b) ∧ (g9 = g ∨ w.heap.size ≤ g9) ∧ g9 < w2_10.heap.size ∧ lo ≤ g9 := by
    cases h9 : a14 with
    | none => exact ⟨g, fun q hq => (by cases hq), .inl rfl, by omega, hl2⟩
    | some q9 =>
      have h8 := hO2.block q9 h9
      rcases hQ14 q9 h9 with ⟨p8, hp8, e8⟩ | h7
      · have h6 := hg p8 hp8; exact ⟨q9.block, fun q hq => (by cases hq; exact ⟨rfl, by omega⟩), by omega, by omega, by omega⟩
      · exact ⟨q9.block, fun q hq => (by cases hq; exact ⟨rfl, by omega⟩), by omega, by omega, by omega⟩
  refine ⟨rfl, g9, ⟨⟨hl1, hg7.2, hg7.1⟩, ptr b 0, a14, c14, ?_, .inr rfl, ?_, hg9⟩, hg8, hK2⟩
  · rw [List.length_append]; exact hB
  · rw [List.length_append]; rw [byte_app]; exact hO2.keep hS2_10.keep fun q hq => (hg9 q hq).1 ▸ (hg9 q hq).2

end Go.Proofs.Yticlopepmnlkmaa
