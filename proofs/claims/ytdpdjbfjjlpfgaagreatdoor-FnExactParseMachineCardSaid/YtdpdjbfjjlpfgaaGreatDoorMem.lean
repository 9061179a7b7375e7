/- Memory: what a call keeps, blocks that are known whole, slices that read as lists of cells; the rules for operations that make or write memory. No condition beyond those that each rule states. -/
import Derived.Test.YtdpdjbfjjlpfgaaGreatDoorOps
import Derived.Laws.AppendOwnNone
import Derived.Laws.StructEq
import Derived.Laws.MakeOwn
namespace Go.Proofs.YtdpdjbfjjlpfgaaGreatDoor
open Go Go.RowKit

/-! ### What is kept -/
/-- The blocks in F are as they were; the streams too; no block has gone. -/
structure Keep (F : Nat → Prop) (w w' : World) : Prop where
  os : w'.os = w.os
  tape : w'.tape = w.tape
  output : w'.output = w.output
  size : w.heap.size ≤ w'.heap.size
  block : ∀ k, F k → w'.heap[k]? = w.heap[k]?

/-- All that was there is as it was. -/
abbrev Ext (w w' : World) : Prop := Keep (fun k => k < w.heap.size) w w'

theorem Keep.refl (F : Nat → Prop) (w : World) : Keep F w w := ⟨rfl, rfl, rfl, Nat.le_refl _, fun _ _ => rfl⟩
theorem Keep.trans {F : Nat → Prop} {a b c : World} (h : Keep F a b) (k : Keep F b c) : Keep F a c :=
  ⟨k.os.trans h.os, k.tape.trans h.tape, k.output.trans h.output, Nat.le_trans h.size k.size, fun i hi => (k.block i hi).trans (h.block i hi)⟩
theorem Keep.mono {F G : Nat → Prop} {w w' : World} (h : Keep F w w') (hG : ∀ k, G k → F k) : Keep G w w' := ⟨h.os, h.tape, h.output, h.size, fun k hk => h.block k (hG k hk)⟩
theorem Ext.refl (w : World) : Ext w w := Keep.refl _ w
theorem Ext.trans {a b c : World} (h : Ext a b) (k : Ext b c) : Ext a c := Keep.trans h (k.mono fun _ hi => Nat.lt_of_lt_of_le hi h.size)
/-- What is kept below B, and all that was there at a later time. -/
theorem Keep.ext {F : Nat → Prop} {a b c : World} (h : Keep F a b) (k : Ext b c) (hF : ∀ i, F i → i < b.heap.size) : Keep F a c := Keep.trans h (k.mono hF)
theorem Keep.below {B : Nat} {w w' : World} (h : Keep (fun k => k < B) w w') : Below B w w' := ⟨h.os, h.tape, h.output, h.size, h.block⟩
theorem Keep.of_below {B : Nat} {w w' : World} (h : Below B w w') : Keep (fun k => k < B) w w' := ⟨h.os, h.tape, h.output, h.size, h.block⟩
theorem Keep.of_grown {w w' : World} {row : Option Nat} (h : w.grownBy w' row) : Keep (fun k => k < w.heap.size ∧ some k ≠ row) w w' := ⟨h.os, h.tape, h.output, h.size, fun k hk => h.block k hk.1 hk.2⟩
theorem Ext.drew (w : World) : Ext w (drewW w) := ⟨rfl, rfl, rfl, Nat.le_refl _, fun _ _ => rfl⟩
theorem Keep.drew (F : Nat → Prop) (w : World) : Keep F w (drewW w) := ⟨rfl, rfl, rfl, Nat.le_refl _, fun _ _ => rfl⟩
theorem Keep.cell {F : Nat → Prop} {w w' : World} (h : Keep F w w') {p : Addr} (hp : F p.block) : w'.cell? p = w.cell? p := World.cell?_of_block (w := w) (h.block p.block hp)
theorem Ext.cell {w w' : World} (h : Ext w w') {p : Addr} {v : Value} (hp : w.cell? p = some v) : w'.cell? p = some v := (Keep.cell h (World.block_lt_of_cell? w p hp)).trans hp

theorem Ext.cells {w w' : World} (h : Ext w w') {b off : Nat} {cs : List Value} (hc : ∀ j (h : j < cs.length), w.cell? ⟨b, off + j, none⟩ = some cs[j]) : ∀ j (h : j < cs.length), w'.cell? ⟨b, off + j, none⟩ = some cs[j] := fun j hj => h.cell (hc j hj)

/-- A region that draws its order: all that is there stays as it is. -/
theorem W_drawE {P : Program} {n : Nat} {Q : Post} {L : Env} {w : World} {ops : Array Oper} {id : Nat} (plan : List (Nat × Bool)) (hm : P.follows .mixedOrders = true) (hs : Region.noSelect ops = true) (hl : plan.length = ops.size)
    (hp : planB ops plan (Array.replicate ops.size false) = true) (h : ∀ wd, Ext w wd → wd.heap.size = w.heap.size → PW P n ops Q (fun w' => Ext wd w') plan L wd) : W P n (.region id ops true) Q L w :=
  W_draw (fun w' => Ext (drewW w) w') plan hm hs hl hp (Ext.refl _) (h (drewW w) (Ext.drew w) rfl)

/-! ### A block that is known whole -/
def Blk (w : World) (b : Nat) (T : TypeId) (cs : List Value) : Prop := w.heap[b]? = some (.cells cs.toArray T (0, 0))

theorem Blk.lt {w : World} {b : Nat} {T : TypeId} {cs : List Value} (h : Blk w b T cs) : b < w.heap.size := (Array.getElem?_eq_some_iff.1 h).1
theorem Blk.keep {F : Nat → Prop} {w w' : World} {b : Nat} {T : TypeId} {cs : List Value} (h : Blk w b T cs) (k : Keep F w w') (hF : F b) : Blk w' b T cs := (k.block b hF).trans h
theorem Blk.ext {w w' : World} {b : Nat} {T : TypeId} {cs : List Value} (h : Blk w b T cs) (k : Ext w w') : Blk w' b T cs := h.keep k h.lt
theorem Blk.cell {w : World} {b : Nat} {T : TypeId} {cs : List Value} {i : Nat} {v : Value} (h : Blk w b T cs) (hv : cs[i]? = some v) : w.cell? ⟨b, i, none⟩ = some v := by
  unfold Blk at h
  simp [World.cell?, h, hv]
theorem Blk.frozen {w : World} {b : Nat} {T : TypeId} {cs : List Value} (h : Blk w b T cs) (i : Nat) : w.frozen? ⟨b, i, none⟩ = false := by
  unfold Blk at h
  simp [World.frozen?, h]

/-- A new block. -/
structure New (w w' : World) (T : TypeId) (cs : List Value) : Prop where
  ext : Ext w w'
  size : w'.heap.size = w.heap.size + 1
  blk : Blk w' w.heap.size T cs

theorem New.mk' (w : World) (T : TypeId) (cs : List Value) : New w (w.alloc (.cells cs.toArray T)) T cs :=
  ⟨⟨rfl, rfl, rfl, by simp, fun k hk => Below.heap_alloc w _ k hk⟩, by simp, by unfold Blk; exact heap_alloc_new w _⟩

/-- A block was written. -/
structure Sto (w w' : World) (b : Nat) (T : TypeId) (cs : List Value) : Prop where
  keep : Keep (fun k => k ≠ b) w w'
  size : w'.heap.size = w.heap.size
  blk : Blk w' b T cs
  old : ∃ cs0, Blk w b T cs0 ∧ cs.length = cs0.length

theorem setCell_sto {w : World} {b : Nat} {T : TypeId} {cs : List Value} (h : Blk w b T cs) (i : Nat) (v : Value) : Sto w (w.setCell ⟨b, i, none⟩ v) b T (cs.set i v) := by
  refine ⟨⟨rfl, rfl, rfl, by simp [World.setCell], fun k hk => Below.heap_setCell _ _ _ _ hk⟩, by simp [World.setCell], ?_, ⟨cs, h, by simp⟩⟩
  unfold Blk at *
  have hlt := (Array.getElem?_eq_some_iff.1 h).1
  have hge := (Array.getElem?_eq_some_iff.1 h).2
  simp only [World.setCell, Array.getElem?_modify]
  simp [hlt, hge]

/-! ### A slice's cells -/
/-- The slice at 'a' begins with the cells 'cs', in a block from 'lo' on below 'hi'. -/
def SAt (lo hi : Nat) (w : World) (a : Option Addr) (cs : List Value) : Prop :=
  cs = [] ∨ ∃ b off, a = some ⟨b, off, none⟩ ∧ lo ≤ b ∧ b < hi ∧ ∀ i (h : i < cs.length), w.cell? ⟨b, off + i, none⟩ = some cs[i]

theorem SAt.nil {lo hi : Nat} {w : World} {a : Option Addr} : SAt lo hi w a [] := .inl rfl
theorem SAt.keep {F : Nat → Prop} {lo hi : Nat} {w w' : World} {a : Option Addr} {cs : List Value} (h : SAt lo hi w a cs) (k : Keep F w w') (hF : ∀ b, lo ≤ b → b < hi → F b) : SAt lo hi w' a cs := by
  rcases h with h | ⟨b, off, ha, h1, h2, hc⟩
  · exact .inl h
  · exact .inr ⟨b, off, ha, h1, h2, fun i hi => (k.cell (p := ⟨b, off + i, none⟩) (hF b h1 h2)).trans (hc i hi)⟩
theorem SAt.ext {lo hi : Nat} {w w' : World} {a : Option Addr} {cs : List Value} (h : SAt lo hi w a cs) (k : Ext w w') : SAt lo hi w' a cs := by
  rcases h with h | ⟨b, off, ha, h1, h2, hc⟩
  · exact .inl h
  · exact .inr ⟨b, off, ha, h1, h2, fun i hi => k.cell (hc i hi)⟩
theorem SAt.mono {lo hi lo' hi' : Nat} {w : World} {a : Option Addr} {cs : List Value} (h : SAt lo hi w a cs) (h1 : lo' ≤ lo) (h2 : hi ≤ hi') : SAt lo' hi' w a cs := by
  rcases h with h | ⟨b, off, ha, hb1, hb2, hc⟩
  · exact .inl h
  · exact .inr ⟨b, off, ha, by omega, by omega, hc⟩
/-- Where there is a cell the slice is not nil. -/
theorem SAt.at {lo hi : Nat} {w : World} {a : Option Addr} {cs : List Value} (h : SAt lo hi w a cs) (hn : 0 < cs.length) :
    ∃ b off, a = some ⟨b, off, none⟩ ∧ lo ≤ b ∧ b < hi ∧ ∀ i (h : i < cs.length), w.cell? ⟨b, off + i, none⟩ = some cs[i] := by
  rcases h with h | h
  · subst h; simp at hn
  · exact h
theorem SAt.of_blk {w : World} {b : Nat} {T : TypeId} {cs ds : List Value} (h : Blk w b T (cs ++ ds)) : SAt b (b + 1) w (some ⟨b, 0, none⟩) cs :=
  .inr ⟨b, 0, rfl, Nat.le_refl _, by omega, fun i hi => by
    rw [Nat.zero_add]
    exact h.cell (by rw [List.getElem?_append_left hi]; exact List.getElem?_eq_getElem hi)⟩

theorem Blk.sto {w w' : World} {b b' : Nat} {T T' : TypeId} {cs ds : List Value} (h : Blk w b T cs) (k : Sto w w' b' T' ds) (hb : b ≠ b') : Blk w' b T cs := h.keep k.keep hb
theorem SAt.sto {lo hi : Nat} {w w' : World} {a : Option Addr} {cs : List Value} {b' : Nat} {T' : TypeId} {ds : List Value} (h : SAt lo hi w a cs) (k : Sto w w' b' T' ds) (hb : b' < lo ∨ hi ≤ b') : SAt lo hi w' a cs :=
  h.keep k.keep fun b h1 h2 => by show b ≠ b'; omega
theorem Ext.sto {w0 w w' : World} {b' : Nat} {T' : TypeId} {ds : List Value} (h : Ext w0 w) (k : Sto w w' b' T' ds) (hb : w0.heap.size ≤ b') : Ext w0 w' := Keep.trans h (k.keep.mono fun i hi => by show i ≠ b'; have : i < w0.heap.size := hi; omega)

def blkOf (a : Option Addr) : Nat := match a with | some q => q.block | none => 0
def offOf (a : Option Addr) : Nat := match a with | some q => q.off | none => 0

theorem SAt.isSome {lo hi : Nat} {w : World} {a : Option Addr} {cs : List Value} (h : SAt lo hi w a cs) (hn : 0 < cs.length) : a = some ⟨blkOf a, offOf a, none⟩ := by
  obtain ⟨b, off, ha, _⟩ := h.at hn
  subst ha; rfl
theorem SAt.cell {lo hi : Nat} {w : World} {a : Option Addr} {cs : List Value} (h : SAt lo hi w a cs) {i : Nat} {v : Value} (hv : cs[i]? = some v) : w.cell? ⟨blkOf a, offOf a + i, none⟩ = some v := by
  have hi : i < cs.length := by
    rcases Nat.lt_or_ge i cs.length with h | h
    · exact h
    · rw [List.getElem?_eq_none h] at hv; cases hv
  obtain ⟨b, off, ha, _, _, hc⟩ := h.at (by omega)
  subst ha
  have := hc i hi
  rw [List.getElem?_eq_getElem hi] at hv
  simp only [Option.some.injEq] at hv
  subst hv
  exact this

section
variable {P : Program} {L : Env} {ty T T' E : TypeId} {w : World} {x y z : Operand} {v u : Value} {m k : Int} {b c : Bool}

/-! ### Making memory -/
theorem ev_box (hx : ev L x = some v) : EvM P L (.box T x) ty w (fun r w' => r = ptr w.heap.size 0 ∧ New w w' T v.cells.toList) := by
  intro ρ hρ d p f g
  have := New.mk' w T v.cells.toList
  simp [execOp, hρ x _ hx, Instr.box, newVar, newRow, OpOk] at this ⊢
  exact this

def zero? (P : Program) (t : TypeId) : Option Value := (P.info? t).bind (·.zero)

theorem run_zero {t : TypeId} {z : Value} (h : zero? P t = some z) : (zeroValue t).run P w = .ok z w := by
  unfold zero? at h
  cases hi : P.info? t with
  | none => rw [hi] at h; cases h
  | some i => rw [hi] at h; simp at h; simp [zeroValue, typeInfo, hi, h]

theorem ev_alloc (hz : zero? P T = some v) : EvM P L (.alloc T) ty w (fun r w' => r = ptr w.heap.size 0 ∧ New w w' T v.cells.toList) := by
  intro ρ hρ d p f g
  have := New.mk' w T v.cells.toList
  simp [execOp, Instr.alloc, run_zero hz, newVar, newRow, OpOk] at this ⊢
  exact this

/-! ### Writing -/
theorem ev_store {bl off : Nat} {cs : List Value} (hs : size? P T = some 1) (hx : ev L x = some (ptr bl off)) (hy : ev L y = some v) (h1 : v.oneCell' = true) (hb : Blk w bl E cs) (ho : off < cs.length) :
    EvM P L (.store T x y) ty w (fun _ w' => Sto w w' bl E (cs.set off v)) := by
  intro ρ hρ d p f g
  have hc := hb.cell (List.getElem?_eq_getElem ho)
  have hf := hb.frozen off
  have hcells : v.cells = #[v] := by cases v <;> simp_all [Value.cells, Value.oneCell']
  have := setCell_sto hb off v
  simp [execOp, hρ x _ hx, hρ y _ hy, Instr.storeAt, Instr.sureAddr, storeVar, run_sizeOf hs, hcells, storeCells, run_store _ _ _ _ _ h1, Addr.add, hc, hf, OpOk]
  exact this

/-- A struct of several cells. -/
theorem ev_stores {bl off n : Nat} {cs vs : List Value} (hs : size? P T = some n) (hx : ev L x = some (ptr bl off)) (hy : ev L y = some (.agg vs.toArray)) (hn : vs.length = n) (h1 : ∀ u ∈ vs, u.oneCell' = true) (hb : Blk w bl E cs)
    (ho : off + vs.length ≤ cs.length) : EvM P L (.store T x y) ty w (fun _ w' => Sto w w' bl E (cs.take off ++ vs ++ cs.drop (off + vs.length))) := by
  intro ρ hρ d p f g
  subst hn
  have hrun := run_storeCells_at P bl off E vs 0 cs.toArray w hb (by simpa using ho) h1
  have hlt := hb.lt
  simp [execOp, hρ x _ hx, hρ y _ hy, Instr.storeAt, Instr.sureAddr, storeVar, run_sizeOf hs, Value.cells, hrun, OpOk]
  refine ⟨⟨rfl, rfl, rfl, by simp [World.setRow], fun k hk => ?_⟩, by simp [World.setRow], ?_, ⟨cs, hb, by simp; omega⟩⟩
  · simp only [World.setRow, Array.getElem?_modify]
    rw [if_neg (fun h => hk h.symm)]
  · unfold Blk at *
    have hge := (Array.getElem?_eq_some_iff.1 hb).2
    simp only [World.setRow, Array.getElem?_modify]
    simp [hlt, hge]
end
/-! ### make, append, slicing, literals -/
section
variable {P : Program} {L : Env} {ty T T' E : TypeId} {w : World} {x y z : Operand} {v u : Value} {m k : Int}

/-- What the table says of an element's type: its zero value, its cells, its bytes. -/
def elem? (P : Program) (t : TypeId) : Option (Value × Nat × Nat) := match P.info? t with
  | some i => match i.zero with
    | some z => some (z, i.size, i.bytes)
    | none => none
  | none => none

theorem elem_parts {t : TypeId} {z : Value} {s b : Nat} (h : elem? P t = some (z, s, b)) : ∃ i, P.info? t = some i ∧ i.zero = some z ∧ i.size = s ∧ i.bytes = b := by
  unfold elem? at h
  split at h
  · rename_i i hi
    split at h
    · rename_i z' hz
      simp only [Option.some.injEq, Prod.mk.injEq] at h
      exact ⟨i, hi, by rw [hz, h.1], h.2.1, h.2.2⟩
    · cases h
  · cases h

theorem made_one (z : Value) (n : Nat) : madeCells #[z] n = (List.replicate n z).toArray := by
  apply Array.ext
  · simp [madeCells]
  · intro i h1 h2
    simp [madeCells, Nat.mod_one]

/-- make([]E, n), E of one cell. -/
theorem ev_make {by' : Nat} (ht : P.underlying T = some (.slice E)) (he : elem? P E = some (u, 1, by')) (hu : u.cells = #[u]) (hx : ev L x = some (VI m)) (hy : ev L y = some (VI m)) (h0 : 0 ≤ m) (hb : (by' : Int) * m ≤ 281474976710656)
    (h63 : m ≤ 9223372036854775807) :
    EvM P L (.makeSlice T x y) ty w (fun r w' => r = .slice (some ⟨w.heap.size, 0, none⟩) m.toNat m.toNat ∧ New w w' E (List.replicate m.toNat u)) := by
  intro ρ hρ d p f g
  obtain ⟨i, hi, hz, hs, hby⟩ := elem_parts he
  have hr := run_make (P := P) w T E i u ht hi hz .i64 .i64 m m h0 (by omega) (by rw [hby]; exact hb) h63
  have := New.mk' w E (List.replicate m.toNat u)
  rw [hu, hs, made_one, Nat.mul_one] at hr
  simp only [execOp, hρ x _ hx, hρ y _ hy, Sem.run_bind, hr, Result.andThen_ok, Sem.run_pure, OpOk]
  exact ⟨trivial, this⟩

/-- make([]E, n), E of one cell. -/
theorem ev_makeN {by' : Nat} (ht : P.underlying T = some (.slice E)) (he : elem? P E = some (u, 1, by')) (hu : u.cells = #[u]) {n : Nat} (hx : ev L x = some (VI (n : Int))) (hy : ev L y = some (VI (n : Int))) (hb : (by' : Int) * n ≤ 281474976710656)
    (h63 : (n : Int) ≤ 9223372036854775807) :
    EvM P L (.makeSlice T x y) ty w (fun r w' => r = .slice (some ⟨w.heap.size, 0, none⟩) n n ∧ New w w' E (List.replicate n u)) := by
  simpa using ev_make (m := (n : Int)) ht he hu hx hy (by omega) hb h63

theorem made_two (a b : Value) (n : Nat) : madeCells #[a, b] (n * 2) = ((List.replicate n [a, b]).flatten).toArray := by
  apply Array.ext
  · simp [madeCells, List.length_flatten]
  · intro i h1 h2
    have hi : i < n * 2 := by simpa [madeCells] using h1
    have key : ∀ (n i : Nat), i < n * 2 → ((List.replicate n [a, b]).flatten)[i]? = some (if i % 2 = 0 then a else b) := by
      intro n
      induction n with
      | zero => intro i h; omega
      | succ n ih =>
        intro i h
        rw [List.replicate_succ, List.flatten_cons]
        match i with
        | 0 => simp
        | 1 => simp
        | i + 2 =>
          have := ih i (by omega)
          simp only [List.cons_append, List.nil_append, List.getElem?_cons_succ]
          rw [this]
          congr 2
          simp
    have h3 := key n i hi
    have h4 : (madeCells #[a, b] (n * 2))[i] = if i % 2 = 0 then a else b := by
      simp only [madeCells, Array.getElem_map, Array.getElem_range]
      rcases Nat.mod_two_eq_zero_or_one i with h | h <;> simp [h]
    rw [h4]
    have h5 : i < ((List.replicate n [a, b]).flatten).length := by simpa using h2
    rw [List.getElem?_eq_getElem h5] at h3
    simpa using h3.symm

/-- make([]E, n), E of two cells. -/
theorem ev_make2 {by' : Nat} {z0 z1 : Value} (ht : P.underlying T = some (.slice E)) (he : elem? P E = some (.agg #[z0, z1], 2, by')) (hx : ev L x = some (VI m)) (hy : ev L y = some (VI m)) (h0 : 0 ≤ m) (hb : (by' : Int) * m ≤ 281474976710656)
    (h63 : m ≤ 9223372036854775807) :
    EvM P L (.makeSlice T x y) ty w (fun r w' => r = .slice (some ⟨w.heap.size, 0, none⟩) m.toNat m.toNat ∧ New w w' E (List.replicate m.toNat [z0, z1]).flatten) := by
  intro ρ hρ d p f g
  obtain ⟨i, hi, hz, hs, hby⟩ := elem_parts he
  have hr := run_make (P := P) w T E i _ ht hi hz .i64 .i64 m m h0 (by omega) (by rw [hby]; exact hb) h63
  have := New.mk' w E (List.replicate m.toNat [z0, z1]).flatten
  have hc : (Value.agg #[z0, z1]).cells = #[z0, z1] := rfl
  rw [hs, hc, made_two] at hr
  simp only [execOp, hρ x _ hx, hρ y _ hy, Sem.run_bind, hr, Result.andThen_ok, Sem.run_pure, OpOk]
  exact ⟨trivial, this⟩

/-- make([]E, n), E of two cells. -/
theorem ev_make2N {by' : Nat} {z0 z1 : Value} (ht : P.underlying T = some (.slice E)) (he : elem? P E = some (.agg #[z0, z1], 2, by')) {n : Nat} (hx : ev L x = some (VI (n : Int))) (hy : ev L y = some (VI (n : Int))) (hb : (by' : Int) * n ≤ 281474976710656)
    (h63 : (n : Int) ≤ 9223372036854775807) :
    EvM P L (.makeSlice T x y) ty w (fun r w' => r = .slice (some ⟨w.heap.size, 0, none⟩) n n ∧ New w w' E (List.replicate n [z0, z1]).flatten) := by
  simpa using ev_make2 (m := (n : Int)) ht he hx hy (by omega) hb h63

theorem made_gen (z : List Value) (hz : 0 < z.length) (n : Nat) : madeCells z.toArray (n * z.length) = ((List.replicate n z).flatten).toArray := by
  apply Array.ext
  · simp [madeCells, List.length_flatten]
  · intro i h1 h2
    have hi : i < n * z.length := by simpa [madeCells] using h1
    have key : ∀ (n i : Nat), i < n * z.length → ((List.replicate n z).flatten)[i]? = some (z[i % z.length]'(Nat.mod_lt _ hz)) := by
      intro n
      induction n with
      | zero => intro i h; simp at h
      | succ n ih =>
        intro i h
        rw [List.replicate_succ, List.flatten_cons]
        by_cases hlt : i < z.length
        · rw [List.getElem?_append_left hlt, List.getElem?_eq_getElem hlt]
          simp [Nat.mod_eq_of_lt hlt]
        · rw [List.getElem?_append_right (by omega), ih (i - z.length) (by rw [Nat.succ_mul] at h; omega)]
          have : (i - z.length) % z.length = i % z.length := by
            conv => rhs; rw [show i = (i - z.length) + z.length by omega]
            rw [Nat.add_mod_right]
          simp [this]
    have h3 := key n i hi
    have h4 : (madeCells z.toArray (n * z.length))[i] = z[i % z.length]'(Nat.mod_lt _ hz) := by
      simp only [madeCells, Array.getElem_map, Array.getElem_range, List.size_toArray]
      rw [getElem!_pos _ _ (by simpa using Nat.mod_lt _ hz)]
      simp
    rw [h4]
    have h5 : i < ((List.replicate n z).flatten).length := by simpa using h2
    rw [List.getElem?_eq_getElem h5] at h3
    simpa using h3.symm

/-- make([]E, n), E of several cells. -/
theorem ev_makeGN {by' k : Nat} {zs : List Value} (ht : P.underlying T = some (.slice E)) (he : elem? P E = some (.agg zs.toArray, k, by')) (hk : zs.length = k) (hz : 0 < zs.length) {n : Nat} (hx : ev L x = some (VI (n : Int))) (hy : ev L y = some (VI (n : Int))) (hb : (by' : Int) * n ≤ 281474976710656)
    (h63 : (n : Int) ≤ 9223372036854775807) :
    EvM P L (.makeSlice T x y) ty w (fun r w' => r = .slice (some ⟨w.heap.size, 0, none⟩) n n ∧ New w w' E (List.replicate n zs).flatten) := by
  intro ρ hρ d p f g
  subst hk
  obtain ⟨i, hi, hz', hs, hby⟩ := elem_parts he
  have hr := run_make (P := P) w T E i _ ht hi hz' .i64 .i64 (n : Int) (n : Int) (by omega) (by omega) (by rw [hby]; exact hb) h63
  have := New.mk' w E (List.replicate n zs).flatten
  have hc : (Value.agg zs.toArray).cells = zs.toArray := rfl
  rw [hs, hc, Int.toNat_natCast, made_gen zs hz] at hr
  simp only [execOp, hρ x _ hx, hρ y _ hy, Sem.run_bind, hr, Result.andThen_ok, Sem.run_pure, OpOk]
  exact ⟨trivial, this⟩

/-- A slice that the call owns: nil, or a block of its own. -/
def Own (lo : Nat) (w : World) (E : TypeId) (sz : Nat) (a : Option Addr) (n c : Nat) (cs : List Value) : Prop := w.ownsRow lo E sz (.slice a n c) n cs

theorem Own.nil (lo : Nat) (w : World) (E : TypeId) (sz : Nat) : Own lo w E sz none 0 0 [] := World.ownsRow_nil w lo E sz

theorem Own.sat {lo : Nat} {E : TypeId} {sz : Nat} {a : Option Addr} {n c : Nat} {cs : List Value} (h : Own lo w E sz a n c cs) : SAt lo w.heap.size w a cs := by
  obtain ⟨hl, h⟩ := h
  rcases h with ⟨hv, hn⟩ | ⟨g, cap, cur, hv, hb, hg, h1, h2, h3, h4⟩
  · subst hn
    left
    exact List.eq_nil_of_length_eq_zero (by simpa using hl)
  · right
    cases hv
    refine ⟨g, 0, rfl, hb, (Array.getElem?_eq_some_iff.1 hg).1, fun i hi => ?_⟩
    have : cur.toList[i]? = some cs[i] := by
      have e : (cur.toList.take (n * sz))[i]? = some cs[i] := by rw [h4]; exact List.getElem?_eq_getElem hi
      rw [List.getElem?_take] at e
      split at e
      · exact e
      · cases e
    rw [Nat.zero_add]
    simp only [World.cell?, hg]
    simpa using this

theorem Own.cap {lo : Nat} {E : TypeId} {sz : Nat} {a : Option Addr} {n c : Nat} {cs : List Value} (h : Own lo w E sz a n c cs) : n ≤ c ∧ cs.length = n * sz := by
  obtain ⟨hl, h⟩ := h
  rcases h with ⟨hv, hn⟩ | ⟨g, cap, cur, hv, hb, hg, h1, h2, h3, h4⟩
  · exact ⟨by omega, hl⟩
  · cases hv; exact ⟨h1, hl⟩

theorem Own.block {lo : Nat} {E : TypeId} {sz : Nat} {a : Option Addr} {n c : Nat} {cs : List Value} (h : Own lo w E sz a n c cs) : ∀ q, a = some q → lo ≤ q.block ∧ q.block < w.heap.size := by
  intro q hq
  exact World.ownsRow.lt h q.block (by subst hq; rfl)

theorem Own.keep {F : Nat → Prop} {w' : World} {lo : Nat} {E : TypeId} {sz : Nat} {a : Option Addr} {n c : Nat} {cs : List Value} (h : Own lo w E sz a n c cs) (k : Keep F w w') (hF : ∀ q, a = some q → F q.block) : Own lo w' E sz a n c cs := by
  obtain ⟨hl, h⟩ := h
  refine ⟨hl, ?_⟩
  rcases h with h | ⟨g, cap, cur, hv, hb, hg, rest⟩
  · exact .inl h
  · refine .inr ⟨g, cap, cur, hv, hb, ?_, rest⟩
    cases hv
    rw [k.block g (hF ⟨g, 0, none⟩ rfl)]
    exact hg

theorem Own.ext {w' : World} {lo : Nat} {E : TypeId} {sz : Nat} {a : Option Addr} {n c : Nat} {cs : List Value} (h : Own lo w E sz a n c cs) (k : Ext w w') : Own lo w' E sz a n c cs :=
  h.keep k fun q hq => (h.block q hq).2

theorem Own.mono {lo lo' : Nat} {E : TypeId} {sz : Nat} {a : Option Addr} {n c : Nat} {cs : List Value} (h : Own lo w E sz a n c cs) (hl : lo' ≤ lo) : Own lo' w E sz a n c cs := by
  obtain ⟨h0, h⟩ := h
  refine ⟨h0, ?_⟩
  rcases h with h | ⟨g, cap, cur, hv, hb, rest⟩
  · exact .inl h
  · exact .inr ⟨g, cap, cur, hv, by omega, rest⟩

theorem Own.of_new {w' : World} {E : TypeId} {cs : List Value} {n sz : Nat} (h : New w w' E cs) (hl : cs.length = n * sz) (hm : n ≤ maxLen) : Own w.heap.size w' E sz (some ⟨w.heap.size, 0, none⟩) n n cs :=
  ⟨hl, .inr ⟨w.heap.size, n, cs.toArray, rfl, Nat.le_refl _, h.blk, Nat.le_refl _, hm, by simpa using hl, by simp [← hl]⟩⟩

/-- A shorter cut of it: s[:k]. -/
theorem Own.take {lo : Nat} {E : TypeId} {sz : Nat} {a : Option Addr} {n c : Nat} {cs : List Value} (h : Own lo w E sz a n c cs) (k : Nat) (hk : k ≤ n) : Own lo w E sz a k c (cs.take (k * sz)) := by
  obtain ⟨hl, h⟩ := h
  have hle : k * sz ≤ n * sz := Nat.mul_le_mul_right _ hk
  refine ⟨by rw [List.length_take]; omega, ?_⟩
  rcases h with ⟨hv, hn⟩ | ⟨g, cap, cur, hv, hb, hg, h1, h2, h3, h4⟩
  · cases hv
    left
    have : k = 0 := by omega
    subst this
    exact ⟨rfl, rfl⟩
  · cases hv
    refine .inr ⟨g, c, cur, rfl, hb, hg, by omega, h2, h3, ?_⟩
    rw [← h4, List.take_take]
    congr 1
    omega

/-- What append hands back lies in the old block or in a new one. -/
theorem append_fresh {lo sz by' : Nat} {a : Option Addr} {n c m c2 : Nat} {cs ds : List Value} {i : TypeInfo} (ht : P.underlying T = some (.slice E)) (hi : P.info? E = some i) (hz : i.zero = some u) (hsi : i.size = sz) (hby : i.bytes = by')
    (ho : w.ownsRow lo E sz (.slice a n c) n cs) (ad : Addr) (hl : ds.length = m * sz) (hnews : ∀ j u, ds[j]? = some u → w.cell? (ad.add j) = some u) (h1 : ∀ u ∈ ds, u.oneCell' = true)
    (hn : (n + m) * by' ≤ 140737488355328) (hm : n + m ≤ maxLen) {v' : Value} {w' : World} (hr : (Builtin.append_ #[T, T] ty #[.slice a n c, .slice (some ad) m c2]).run P w = .ok v' w')
    {a' : Option Addr} {n' c' : Nat} (hv : v' = .slice a' n' c') : ∀ q, a' = some q → (∃ p, a = some p ∧ q.block = p.block) ∨ w.heap.size ≤ q.block := by
  subst hsi hby
  have hsmall : n + m ≤ 9223372036854775807 := by simp only [maxLen] at hm; omega
  intro q hq
  subst hq
  rcases ho.2 with ⟨hv0, h0⟩ | ⟨g, cap, cur, hv0, hbg, hg, hnc, hcm, hcs, htake⟩
  · cases hv0
    by_cases hm0 : m = 0
    · subst hm0
      have hd : ds = [] := List.eq_nil_of_length_eq_zero (by simpa using hl)
      subst hd
      have hr2 : (Builtin.append_ #[T, T] ty #[.slice none 0 0, .slice (some ad) 0 c2]).run P w = .ok (.slice none 0 0) w := by
        simp [Builtin.append_, run_underlying ht, sizeOf, typeInfo, hi, Builtin.lenOf, Builtin.firstCells, loadCells, loadCellsFrom]
      rw [hr2] at hr
      simp only [Result.ok.injEq] at hr
      rw [← hr.1] at hv
      cases hv
    · have hr2 := run_append_nil (P := P) w T ty E i u ht hi hz ad m c2 ds hl hnews (by omega) (by omega) (by have hb := hn; simp only [Nat.zero_add] at hb; omega)
      rw [hr2] at hr
      simp only [Result.ok.injEq] at hr
      rw [← hr.1] at hv
      cases hv
      exact .inr (Nat.le_refl _)
  · cases hv0
    by_cases hroom : n + m ≤ c
    · have hfit : n * i.size + ds.length ≤ cur.size := by rw [hl, hcs, ← Nat.add_mul]; exact Nat.mul_le_mul_right _ hroom
      have hr2 := run_append_room (P := P) w T ty E i ht hi g n c cur hg ad m c2 ds hl hnews h1 hroom hfit
      rw [hr2] at hr
      simp only [Result.ok.injEq] at hr
      rw [← hr.1] at hv
      cases hv
      exact .inl ⟨_, rfl, rfl⟩
    · have hr2 := run_append_grow (P := P) w T ty E i u ht hi hz ⟨g, 0, none⟩ n c cs ho.1 (ho.cells (g := g) rfl) ad m c2 ds hl hnews (by omega) (by omega) (growslice_fits (by omega) hn)
      rw [hr2] at hr
      simp only [Result.ok.injEq] at hr
      rw [← hr.1] at hv
      cases hv
      exact .inr (Nat.le_refl _)

/-- append(s, ys...): s is the call's own; ys is read anywhere. -/
theorem ev_append {lo sz by' : Nat} {a a2 : Option Addr} {n c m c2 : Nat} {cs ds : List Value} {lo2 hi2 : Nat} (ht : P.underlying T = some (.slice E)) (he : elem? P E = some (u, sz, by')) (hu : u.cells.size = sz) (hsz : 0 < sz)
    (hx : ev L x = some (.slice a n c)) (hy : ev L y = some (.slice a2 m c2)) (ho : Own lo w E sz a n c cs) (hs : SAt lo2 hi2 w a2 ds) (hl : ds.length = m * sz) (h1 : ∀ u ∈ ds, u.oneCell' = true)
    (hn : (n + m) * by' ≤ 140737488355328) (hm : n + m ≤ maxLen) (hlo : lo ≤ w.heap.size) :
    EvM P L (.call ⟨.builtin .append, #[x, y], #[T, T]⟩) ty w (fun r w' => ∃ a' c', r = .slice a' (n + m) c' ∧ Own lo w' E sz a' (n + m) c' (cs ++ ds) ∧ Keep (fun k => k < w.heap.size ∧ ∀ q, a = some q → k ≠ q.block) w w' ∧ ∀ q, a' = some q → (∃ p, a = some p ∧ q.block = p.block) ∨ w.heap.size ≤ q.block) := by
  intro ρ hρ d p f g
  obtain ⟨i, hi, hz, hsi, hby⟩ := elem_parts he
  have fin : ∀ v' w', w'.ownsRow lo E sz v' (n + m) (cs ++ ds) → w.grownBy w' (Value.slice a n c).ownBlock → (∀ a' n' c', v' = .slice a' n' c' → ∀ q, a' = some q → (∃ p, a = some p ∧ q.block = p.block) ∨ w.heap.size ≤ q.block) →
      ∃ a' c', v' = .slice a' (n + m) c' ∧ Own lo w' E sz a' (n + m) c' (cs ++ ds) ∧ Keep (fun k => k < w.heap.size ∧ ∀ q, a = some q → k ≠ q.block) w w' ∧ ∀ q, a' = some q → (∃ p, a = some p ∧ q.block = p.block) ∨ w.heap.size ≤ q.block := by
    intro v' w' hown hgr hfr
    have hk : Keep (fun k => k < w.heap.size ∧ ∀ q, a = some q → k ≠ q.block) w w' := (Keep.of_grown hgr).mono fun k hk => ⟨hk.1, by
      cases a with
      | none => simp [Value.ownBlock]
      | some q => simp only [Value.ownBlock]; intro h; exact hk.2 q rfl (by simpa using h)⟩
    rcases hown.2 with ⟨hv, h0⟩ | ⟨g', cap, cur, hv, _⟩
    · subst hv
      refine ⟨none, 0, by rw [h0], ?_, hk, fun q hq => by cases hq⟩
      have := hown
      rw [h0] at this ⊢
      exact this
    · subst hv
      exact ⟨_, _, rfl, hown, hk, fun q hq => hfr _ _ _ rfl q hq⟩
  simp only [execOp, resolve, invoke, builtin, hρ x _ hx, hρ y _ hy, Sem.run_bind, Sem.run_pure, Result.andThen_ok, List.map_toArray, List.map_cons, List.map_nil]
  by_cases h0 : ds = []
  · subst h0
    have hm0 : m = 0 := by
      have : m * sz = 0 := by simpa using hl.symm
      rcases Nat.mul_eq_zero.1 this with h | h
      · exact h
      · omega
    subst hm0
    cases a2 with
    | none =>
      have hr : (Builtin.append_ #[T, T] ty #[.slice a n c, .slice none 0 c2]).run P w = .ok (.slice a n c) w := by
        rcases ho.2 with ⟨hv, hn0⟩ | ⟨g, cap, cur, hv, _, _, hnc, _⟩
        · cases hv; simp [Builtin.append_, run_underlying ht, sizeOf, typeInfo, hi, Builtin.lenOf, Builtin.firstCells]
        · cases hv; simp [Builtin.append_, run_underlying ht, sizeOf, typeInfo, hi, Builtin.lenOf, Builtin.firstCells, hnc, storeCells]
      rw [hr]
      simp only [Result.andThen_ok, OpOk]
      exact fin _ w (by have h := ho; unfold Own at h; simpa using h) ⟨rfl, rfl, rfl, Nat.le_refl _, fun _ _ _ => rfl⟩ (fun a' n' c' hv q hq => by cases hv; exact .inl ⟨q, hq, rfl⟩)
    | some q =>
      obtain ⟨v', w', hr, hown, hgr, _⟩ := run_append_own (P := P) w lo T ty E i u sz by' ht hi hz hsi hby hu hsz (.slice a n c) n cs ho q 0 c2 [] (by simp) (by simp) (by simp) hm hn hlo
      have hfr := fun a' n' c' hv => append_fresh (a' := a') (n' := n') (c' := c') (ds := []) ht hi hz hsi hby ho q (by simp) (by simp) (by simp) hn hm hr hv
      rw [hr]
      simp only [Result.andThen_ok, OpOk]
      exact fin v' w' hown hgr hfr
  · obtain ⟨b2, off2, rfl, _, _, hc⟩ := hs.at (List.length_pos_iff.2 h0)
    have hnew : ∀ j u', ds[j]? = some u' → w.cell? (Addr.add ⟨b2, off2, none⟩ j) = some u' := fun j u' hj => by
        have hjl : j < ds.length := by
          rcases Nat.lt_or_ge j ds.length with h | h
          · exact h
          · rw [List.getElem?_eq_none h] at hj; cases hj
        have ha : (Addr.add ⟨b2, off2, none⟩ j) = ⟨b2, off2 + j, none⟩ := by
          unfold Addr.add; split
          · rename_i hi; subst hi; rfl
          · rfl
        rw [ha, hc j hjl]
        rw [List.getElem?_eq_getElem hjl] at hj
        exact hj
    obtain ⟨v', w', hr, hown, hgr, _⟩ := run_append_own (P := P) w lo T ty E i u sz by' ht hi hz hsi hby hu hsz (.slice a n c) n cs ho ⟨b2, off2, none⟩ m c2 ds hl hnew h1 hm hn hlo
    have hfr := fun a' n' c' hv => append_fresh (a' := a') (n' := n') (c' := c') ht hi hz hsi hby ho ⟨b2, off2, none⟩ hl hnew h1 hn hm hr hv
    rw [hr]
    simp only [Result.andThen_ok, OpOk]
    exact fin v' w' hown hgr hfr

/-- s[lo:hi] of a slice. -/
theorem run_bound {y' n : Nat} {k : Int} (code : BoundsCode) (h0 : 0 ≤ k) (h1 : k ≤ y') (hn : k.toNat = n) : (Instr.sliceBound (VI k) y' code).run P w = .ok n w := by
  simp [Instr.sliceBound, asIntOf, h0, h1, hn]

theorem ev_slice_lo {a : Option Addr} {n c sz : Nat} (ht : P.underlying T = some (.slice E)) (hs : size? P E = some sz) (hx : ev L x = some (.slice a n c)) (hy : ev L y = some (VI k)) (h0 : 0 ≤ k) (h1 : k ≤ n) (_hc : n ≤ c) :
    EvR P L (.slice T x (some y) none none) ty w (.slice (if c = k.toNat then a else a.map (·.add (k.toNat * sz))) (n - k.toNat) (c - k.toNat)) := by
  intro ρ hρ d p f g
  have hk : k ≤ (n : Int) := h1
  simp [execOp, hρ x _ hx, hρ y _ hy, Instr.sliceAt, run_underlying ht, Instr.slice, Instr.sliceBounds, run_bound (P := P) _ h0 hk rfl, run_sizeOf hs]

theorem ev_slice_hi {a : Option Addr} {n c sz : Nat} (ht : P.underlying T = some (.slice E)) (hs : size? P E = some sz) (hx : ev L x = some (.slice a n c)) (hy : ev L y = some (VI k)) (h0 : 0 ≤ k) (h1 : k ≤ c) :
    EvR P L (.slice T x none (some y) none) ty w (.slice a k.toNat c) := by
  intro ρ hρ d p f g
  have hk : k ≤ (c : Int) := h1
  have ha : a.map (·.add (0 * sz)) = a := by cases a <;> simp [Addr.add]
  simp [execOp, hρ x _ hx, hρ y _ hy, Instr.sliceAt, run_underlying ht, Instr.slice, Instr.sliceBounds, run_bound (P := P) _ h0 hk rfl, run_sizeOf hs]
  cases a <;> simp [Addr.add]

theorem ev_slice_lohi {a : Option Addr} {n c sz : Nat} (ht : P.underlying T = some (.slice E)) (hs : size? P E = some sz) (hx : ev L x = some (.slice a n c)) (hy : ev L y = some (VI m)) (hz : ev L z = some (VI k)) (h0 : 0 ≤ m) (h1 : m ≤ k) (h2 : k ≤ c) :
    EvR P L (.slice T x (some y) (some z) none) ty w (.slice (if c = m.toNat then a else a.map (·.add (m.toNat * sz))) (k.toNat - m.toNat) (c - m.toNat)) := by
  intro ρ hρ d p f g
  have hk : k ≤ (c : Int) := h2
  have hm : m ≤ ((k.toNat : Nat) : Int) := by omega
  simp [execOp, hρ x _ hx, hρ y _ hy, hρ z _ hz, Instr.sliceAt, run_underlying ht, Instr.slice, Instr.sliceBounds, run_bound (P := P) _ (by omega) hk rfl, run_bound (P := P) _ h0 hm rfl, run_sizeOf hs]

/-- What s[k:] leads to. -/
theorem SAt.drop {lo hi : Nat} {a : Option Addr} {cs : List Value} (h : SAt lo hi w a cs) (c k : Nat) (hc : k = c → cs.length ≤ k) : SAt lo hi w (if c = k then a else a.map (·.add k)) (cs.drop k) := by
  rcases h with h | ⟨b, off, ha, h1, h2, hcell⟩
  · subst h; left; simp
  · by_cases hk : c = k
    · left
      exact List.drop_eq_nil_of_le (hc hk.symm)
    · rw [if_neg hk]
      right
      refine ⟨b, off + k, ?_, h1, h2, fun i hi => ?_⟩
      · subst ha
        simp only [Option.map_some, Option.some.injEq]
        unfold Addr.add; split
        · rename_i h0; subst h0; rfl
        · rfl
      · have hlt : k + i < cs.length := by simp at hi; omega
        have := hcell (k + i) hlt
        rw [Nat.add_assoc, this]
        simp

theorem SAt.take {lo hi : Nat} {a : Option Addr} {cs : List Value} (h : SAt lo hi w a cs) (k : Nat) : SAt lo hi w a (cs.take k) := by
  rcases h with h | ⟨b, off, ha, h1, h2, hcell⟩
  · subst h; left; simp
  · exact .inr ⟨b, off, ha, h1, h2, fun i hi => by
      have : i < cs.length := by simp at hi; omega
      rw [hcell i this]; simp⟩

/-! #### Literals -/
theorem fill_one (place : Nat → Option (Nat × Nat)) (vs : List Value) : ∀ (pre : List Value) (post : List Value), post.length = vs.length → (∀ i, i < pre.length + vs.length → place i = some (i, 1)) → (∀ v ∈ vs, v.cells = #[v]) →
    Instr.fill place (pre ++ post).toArray ((vs.zipIdx pre.length).map fun p => (p.2, p.1)) = some (pre ++ vs).toArray := by
  induction vs with
  | nil => intro pre post h _ _; have : post = [] := List.eq_nil_of_length_eq_zero h; subst this; simp [Instr.fill]
  | cons v r ih =>
    intro pre post h hp hv
    cases post with
    | nil => simp at h
    | cons q post =>
      have hc := hv v (by simp)
      have h1 := hp pre.length (by simp)
      simp only [List.zipIdx_cons, List.map_cons, Instr.fill, h1, hc]
      have := ih (pre ++ [v]) post (by simpa using h) (fun i hi => hp i (by simp at hi ⊢; omega)) (fun u hu => hv u (by simp [hu]))
      simp only [List.length_append, List.length_cons, List.length_nil, Nat.zero_add, List.append_assoc, List.singleton_append] at this
      rw [if_neg (by simp)]
      rw [← this]
      congr 1
      simp

def placesOne (P : Program) : List Field → Nat → Bool
  | [], _ => true
  | f :: r, k => Nat.beq f.offset k && (match size? P f.type with | some n => Nat.beq n 1 | none => false) && placesOne P r (k + 1)

/-- A struct of n fields, each of one cell. -/
def structN (P : Program) (t : TypeId) (n : Nat) : Bool := match P.underlying t, zero? P t with
  | some (.struct fs), some (.agg z) => Nat.beq fs.size n && Nat.beq z.size n && placesOne P fs.toList 0
  | _, _ => false

theorem run_places : ∀ (fs : List Field) (k : Nat), placesOne P fs k = true → (fs.mapM fun f => do pure (f.offset, ← sizeOf f.type) : Sem (List (Nat × Nat))).run P w = .ok ((List.range' k fs.length).map fun i => (i, 1)) w := by
  intro fs
  induction fs with
  | nil => intro k _; simp
  | cons f r ih =>
    intro k h
    simp only [placesOne, Bool.and_eq_true] at h
    obtain ⟨⟨h1, h2⟩, h3⟩ := h
    have ho : f.offset = k := Nat.eq_of_beq_eq_true h1
    split at h2
    · rename_i n hn
      have hn1 : n = 1 := Nat.eq_of_beq_eq_true h2
      subst hn1
      have := ih (k + 1) h3
      rw [List.mapM_cons]
      simp only [Sem.run_bind, run_sizeOf hn, Result.andThen_ok, Sem.run_pure, this, ho, List.length_cons, List.range'_succ, List.map_cons]
    · cases h2

def partsE (L : Env) : List Operand → Nat → Option (List Value)
  | [], _ => some []
  | x :: r, k => match ev L x, partsE L r (k + 1) with
    | some v, some l => some (v :: l)
    | _, _ => none

theorem ev_build {xs : List Operand} {l : List Value} (hn : structN P T xs.length = true) (hx : evs L xs = some l) (h1 : ∀ v ∈ l, v.cells = #[v]) :
    EvR P L (.build T ((xs.zipIdx 0).map fun p => (p.2, p.1)).toArray) ty w (.agg l.toArray) := by
  intro ρ hρ d p f g
  have hm := evs_map hρ hx
  have hlen : l.length = xs.length := by rw [← hm]; simp
  unfold structN at hn
  split at hn
  · rename_i fs z hu hz
    simp only [Bool.and_eq_true] at hn
    obtain ⟨⟨h2, h3⟩, h4⟩ := hn
    have hfs : fs.size = xs.length := Nat.eq_of_beq_eq_true h2
    have hzs : z.size = xs.length := Nat.eq_of_beq_eq_true h3
    have hp := run_places (P := P) (w := w) fs.toList 0 h4
    have hparts : (List.map (fun x => (x.fst, ρ x.snd)) ((xs.zipIdx 0).map fun p => (p.2, p.1))) = (l.zipIdx 0).map fun p => (p.2, p.1) := by
      rw [← hm, List.zipIdx_map, List.map_map, List.map_map]
      congr 1
    have hfill := fill_one (fun i => ((List.range' 0 fs.toList.length).map fun i => (i, 1))[i]?) l [] z.toList (by simp [hzs, hlen]) (fun i hi => by
      simp at hi
      have : i < fs.size := by omega
      simp [this]) h1
    simp only [List.nil_append, List.length_nil] at hfill
    simp only [execOp, Instr.build, Sem.run_bind, run_zero hz, run_underlying hu, Result.andThen_ok, Value.cells, List.map_toArray, hparts]
    rw [← Array.toArray_toList (xs := fs), List.mapM_toArray]
    simp only [Sem.run_map, hp, Result.andThen_ok]
    have hz' : z = z.toList.toArray := by simp
    rw [hz']
    simp only [List.getElem?_toArray]
    rw [hfill]
    simp
  · cases hn

theorem ev_build2 (hn : structN P T 2 = true) (hx : ev L x = some v) (hy : ev L y = some u) (h1 : v.cells = #[v]) (h2 : u.cells = #[u]) : EvR P L (.build T #[(0, x), (1, y)]) ty w (.agg #[v, u]) :=
  ev_build (xs := [x, y]) (l := [v, u]) hn (by simp [evs, hx, hy]) (by intro q hq; simp at hq; rcases hq with rfl | rfl <;> assumption)
theorem ev_build3 {v3 : Value} (hn : structN P T 3 = true) (hx : ev L x = some v) (hy : ev L y = some u) (hz : ev L z = some v3) (h1 : v.cells = #[v]) (h2 : u.cells = #[u]) (h3 : v3.cells = #[v3]) : EvR P L (.build T #[(0, x), (1, y), (2, z)]) ty w (.agg #[v, u, v3]) :=
  ev_build (xs := [x, y, z]) (l := [v, u, v3]) hn (by simp [evs, hx, hy, hz]) (by intro q hq; simp at hq; rcases hq with rfl | rfl | rfl <;> assumption)

/-- A literal of one element. -/
theorem ev_lit1 {by' sz : Nat} (ht : P.underlying T = some (.slice E)) (he : elem? P E = some (u, sz, by')) (hsz : 0 < sz) (hs : sz ≤ 16777216) (hx : ev L x = some v) (hv : v.cells.size = sz) :
    EvM P L (.buildSlice T 1 #[(0, x)]) ty w (fun r w' => r = .slice (some ⟨w.heap.size, 0, none⟩) 1 1 ∧ New w w' E v.cells.toList) := by
  intro ρ hρ d p f g
  obtain ⟨i, hi, hz, hsi, hby⟩ := elem_parts he
  have hsz' : size? P E = some sz := by simp [size?, hi, hsi]
  have hzz : zero? P E = some u := by simp [zero?, hi, hz]
  have hcells : ∀ (cs base : Array Value), base.size = cs.size → (cs.zipIdx.foldl (fun b (c, j) => b.setIfInBounds (0 + j) c) base) = cs := by
    intro cs base hb
    rw [← Array.foldl_toList, Array.toList_zipIdx]
    have key : ∀ (l pre post : List Value), post.length = l.length → ((l.zipIdx pre.length).foldl (fun (b : Array Value) (p : Value × Nat) => b.setIfInBounds (0 + p.2) p.1) (pre ++ post).toArray) = (pre ++ l).toArray := by
      intro l
      induction l with
      | nil => intro pre post h; have : post = [] := List.eq_nil_of_length_eq_zero h; subst this; simp
      | cons c r ih =>
        intro pre post h
        cases post with
        | nil => simp at h
        | cons q post =>
          simp only [List.zipIdx_cons, List.foldl_cons]
          have := ih (pre ++ [c]) post (by simpa using h)
          simp only [List.length_append, List.length_cons, List.length_nil, Nat.zero_add, List.append_assoc, List.singleton_append] at this ⊢
          rw [← this]
          congr 1
          simp
    have := key cs.toList [] base.toList (by simpa using hb)
    simpa using this
  have hne : ¬ (1 * sz = 0) := by omega
  have hgt : ¬ (1 * sz > 2 ^ 24) := by omega
  have hrange : ((Array.range (1 * sz)).map fun j => u.cells[j % u.cells.size]!).size = v.cells.size := by simp [hv]
  have hfill : Instr.fill (fun i => some (i * sz, sz)) ((Array.range (1 * sz)).map fun j => u.cells[j % u.cells.size]!) [(0, v)] = some v.cells := by
    simp only [Instr.fill, Nat.zero_mul]
    rw [if_neg (by simp [hv])]
    congr 1
    exact hcells v.cells _ hrange
  have := New.mk' w E v.cells.toList
  simp only [Array.toArray_toList] at this
  simp only [execOp, Instr.buildSlice, Sem.run_bind, run_underlying ht, Result.andThen_ok, run_sizeOf hsz', List.map_toArray, List.map_cons, List.map_nil, hρ x _ hx, Sem.run_ite, hgt, if_false, hne, run_zero hzz, Sem.run_pure, hfill, newRow, run_newObj_alloc, OpOk]
  exact ⟨trivial, this⟩

/-- A literal of no element. -/
theorem ev_lit0 {by' sz : Nat} (ht : P.underlying T = some (.slice E)) (he : elem? P E = some (u, sz, by')) :
    EvM P L (.buildSlice T 0 #[]) ty w (fun r w' => r = .slice (some ⟨w.heap.size, 0, none⟩) 0 0 ∧ New w w' E []) := by
  intro ρ hρ d p f g
  obtain ⟨i, hi, hz, hsi, hby⟩ := elem_parts he
  have hsz' : size? P E = some sz := by simp [size?, hi, hsi]
  have := New.mk' w E []
  have he0 : (Array.map (fun _ : Nat => (default : Value)) (Array.range 0)) = #[] := by simp
  simp [execOp, Instr.buildSlice, run_underlying ht, run_sizeOf hsz', Instr.fill, newRow, OpOk] at this ⊢
  rw [he0]
  exact this

/-! #### == on structs of two ints -/
def pairT (P : Program) (t : TypeId) : Bool := !P.eqGuardType P.depth t && !P.stoodInHeld t && (match P.underlying t with
  | some (.struct fs) => match fs.toList with
    | [f, g] => f.name != "_" && g.name != "_" && Nat.beq f.offset 0 && Nat.beq g.offset 1 && one? P f.type && one? P g.type && (P.underlying f.type matches some (.int _)) && (P.underlying g.type matches some (.int _))
    | _ => false
  | _ => false)

theorem run_equal_pair (hT : pairT P T = true) (d : Nat) (a b a' b' : Int) : (Op.equalIn (d + 2) T (.agg #[VI a, VI b]) (.agg #[VI a', VI b'])).run P w = .ok (decide (a = a') && decide (b = b')) w := by
  unfold pairT at hT
  simp only [Bool.and_eq_true, Bool.not_eq_true'] at hT
  obtain ⟨⟨hg, hs⟩, hT⟩ := hT
  split at hT
  · rename_i fs hu
    split at hT
    · rename_i f g hl
      simp only [Bool.and_eq_true] at hT
      obtain ⟨⟨⟨⟨⟨⟨⟨h1, h2⟩, h3⟩, h4⟩, h5⟩, h6⟩, h7⟩, h8⟩ := hT
      have hf : P.fieldsOf T = fs := by simp [Program.fieldsOf, hu]
      have h1' : f.name ≠ "_" := by simpa using h1
      have h2' : g.name ≠ "_" := by simpa using h2
      have h3' : f.offset = 0 := Nat.eq_of_beq_eq_true h3
      have h4' : g.offset = 1 := Nat.eq_of_beq_eq_true h4
      rw [run_equalIn_struct w (d + 1) T _ _ (by rw [hf]; exact hu) hs, hf, hl]
      split at h7
      · rename_i k1 hk1
        split at h8
        · rename_i k2 hk2
          simp [Op.eqFields, h1', h2', part, run_isAgg_one h5, run_isAgg_one h6, h3', h4', run_equalIn_int _ _ _ _ _ _ _ hk1, run_equalIn_int _ _ _ _ _ _ _ hk2, beq_dec]
          by_cases ha : a = a' <;> by_cases hb : b = b' <;> simp [ha, hb]
        · cases h8
      · cases h7
    · cases hT
  · cases hT

theorem ev_neq_pair {a b a' b' : Int} (hT : pairT P T = true) (hx : ev L x = some (.agg #[VI a, VI b])) (hy : ev L y = some (.agg #[VI a', VI b'])) : EvR P L (.binOp .neq T x y T') ty w (VB (decide (¬ (a = a' ∧ b = b')))) := by
  intro ρ hρ d p f g
  have hg : P.eqGuardType P.depth T = false := by
    unfold pairT at hT; simp only [Bool.and_eq_true, Bool.not_eq_true'] at hT; exact hT.1.1
  simp only [execOp, hρ x _ hx, hρ y _ hy, Sem.run_bind, run_eqGuard_agg w _ _ _ _ _ _ hg, Result.andThen_ok, run_neq_struct, run_equal_pair hT 9998, Sem.run_pure]
  by_cases ha : a = a' <;> by_cases hb : b = b' <;> simp [ha, hb]

theorem ev_eql_pair {a b a' b' : Int} (hT : pairT P T = true) (hx : ev L x = some (.agg #[VI a, VI b])) (hy : ev L y = some (.agg #[VI a', VI b'])) : EvR P L (.binOp .eql T x y T') ty w (VB (decide (a = a' ∧ b = b'))) := by
  intro ρ hρ d p f g
  have hg : P.eqGuardType P.depth T = false := by
    unfold pairT at hT; simp only [Bool.and_eq_true, Bool.not_eq_true'] at hT; exact hT.1.1
  simp only [execOp, hρ x _ hx, hρ y _ hy, Sem.run_bind, run_eqGuard_agg w _ _ _ _ _ _ hg, Result.andThen_ok, run_eql_struct, run_equal_pair hT 9998, Sem.run_pure]
  by_cases ha : a = a' <;> by_cases hb : b = b' <;> simp [ha, hb]
end
end Go.Proofs.YtdpdjbfjjlpfgaaGreatDoor
