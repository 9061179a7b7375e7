/- What a slice that is read holds: ints, pairs of ints, rows of these; how such facts are carried along. No condition. -/
import Derived.Test.YtdpdjbfjjlpfgaaGreatDoorMem
namespace Go.Proofs.YtdpdjbfjjlpfgaaGreatDoor
open Go Go.RowKit

theorem lkI {L : Env} {t : Nat} {m k : Int} (h : lk L t = some (VI m)) (e : m = k) : lk L t = some (VI k) := e ▸ h
theorem lkB {L : Env} {t : Nat} {m k : Bool} (h : lk L t = some (VB m)) (e : m = k) : lk L t = some (VB k) := e ▸ h
theorem lkS {L : Env} {t : Nat} {a : Option Addr} {n n' c : Nat} (h : lk L t = some (.slice a n c)) (e : n = n') : lk L t = some (.slice a n' c) := e ▸ h
theorem lkV {L : Env} {t : Nat} {v v' : Value} (h : lk L t = some v) (e : v = v') : lk L t = some v' := e ▸ h
theorem vb {a b : Bool} (h : a = b) : Value.bool a = VB b := by rw [h]
theorem vi {a b : Int} (h : a = b) : VI a = VI b := by rw [h]
theorem bt {p : Prop} [Decidable p] (h : p) : true = decide p := by simp [h]
theorem bf {p : Prop} [Decidable p] (h : ¬ p) : false = decide p := by simp [h]
theorem not_true {b : Bool} (h : (!b) = true) : b = false := by cases b <;> simp_all
theorem not_false {b : Bool} (h : (!b) = false) : b = true := by cases b <;> simp_all
theorem W_cond_t' {P : Program} {n : Nat} {Q : Post} {L : Env} {w : World} {c : Operand} {x y : Code} {b : Bool} (hc : ev L c = some (.bool b)) (hb : b = true) (h : W P n x Q L w) : W P n (.cond c x y) Q L w := by
  subst hb; exact W_cond_t hc h
theorem W_cond_f' {P : Program} {n : Nat} {Q : Post} {L : Env} {w : World} {c : Operand} {x y : Code} {b : Bool} (hc : ev L c = some (.bool b)) (hb : b = false) (h : W P n y Q L w) : W P n (.cond c x y) Q L w := by
  subst hb; exact W_cond_f hc h
theorem cellsB {w : World} {b : Nat} {T : TypeId} {cs : List Value} (h : Blk w b T cs) : ∀ j (hj : j < cs.length), w.cell? ⟨b, 0 + j, none⟩ = some cs[j] := fun j hj => by
  rw [Nat.zero_add]; exact h.cell (List.getElem?_eq_getElem hj)
theorem Keep.blk {w w' : World} {b : Nat} {T : TypeId} {cs : List Value} (k : Ext w w') (h : Blk w b T cs) : Blk w' b T cs := h.ext k

theorem Blk.to {w : World} {b : Nat} {T : TypeId} {cs ds : List Value} (h : Blk w b T cs) (e : cs = ds) : Blk w b T ds := e ▸ h

/-- Behind an append: all but the block that was appended to. -/
abbrev Apd (w w' : World) (a : Option Addr) : Prop := Keep (fun k => k < w.heap.size ∧ ∀ q, a = some q → k ≠ q.block) w w'
theorem Blk.app {w w' : World} {a : Option Addr} {b : Nat} {T : TypeId} {cs : List Value} {lo sz n c : Nat} {E : TypeId} {ds : List Value} (h : Blk w b T cs) (k : Apd w w' a) (o : Own lo w E sz a n c ds) (hb : b < lo) : Blk w' b T cs :=
  h.keep k ⟨h.lt, fun q hq => by have := o.block q hq; omega⟩
theorem SAt.app {lo' hi' : Nat} {w w' : World} {a a' : Option Addr} {cs : List Value} {lo sz n c : Nat} {E : TypeId} {ds : List Value} (h : SAt lo' hi' w a' cs) (k : Apd w w' a) (o : Own lo w E sz a n c ds) (hb : hi' ≤ lo) : SAt lo' hi' w' a' cs := by
  rcases h with h | ⟨b, off, ha, h1, h2, hc⟩
  · exact .inl h
  · refine .inr ⟨b, off, ha, h1, h2, fun i hi => ?_⟩
    have hlt := World.block_lt_of_cell? w _ (hc i hi)
    rw [k.cell (p := ⟨b, off + i, none⟩) ⟨hlt, fun q hq => by have := o.block q hq; show b ≠ _; omega⟩]
    exact hc i hi
theorem Ext.app {w0 w w' : World} {a : Option Addr} (h : Ext w0 w) (k : Apd w w' a) (hb : ∀ q, a = some q → w0.heap.size ≤ q.block) : Ext w0 w' :=
  Keep.trans h (k.mono fun i hi => ⟨Nat.lt_of_lt_of_le hi h.size, fun q hq => by have := hb q hq; have : i < w0.heap.size := hi; omega⟩)

/-- All that was there but the block b. -/
abbrev KX (b : Nat) (w w' : World) : Prop := Keep (fun k => k < w.heap.size ∧ k ≠ b) w w'
theorem KX.refl (b : Nat) (w : World) : KX b w w := Keep.refl _ w
theorem KX.trans {b : Nat} {w0 w w' : World} (h : KX b w0 w) (k : Ext w w') : KX b w0 w' := Keep.trans h (k.mono fun i hi => Nat.lt_of_lt_of_le hi.1 h.size)
theorem KX.sto {b b' : Nat} {w0 w w' : World} {T : TypeId} {ds : List Value} (h : KX b w0 w) (k : Sto w w' b' T ds) (hb : b' = b ∨ w0.heap.size ≤ b') : KX b w0 w' :=
  Keep.trans h (k.keep.mono fun i hi => by show i ≠ b'; have := hi.1; have := hi.2; omega)
theorem KX.app {b : Nat} {w0 w w' : World} {a : Option Addr} (h : KX b w0 w) (k : Apd w w' a) (hb : ∀ q, a = some q → q.block = b ∨ w0.heap.size ≤ q.block) : KX b w0 w' :=
  Keep.trans h (k.mono fun i hi => ⟨Nat.lt_of_lt_of_le hi.1 h.size, fun q hq => by have := hb q hq; have := hi.1; have := hi.2; omega⟩)
theorem KX.kx {b b' : Nat} {w0 w w' : World} (h : KX b w0 w) (k : KX b' w w') (hb : b' = b ∨ w0.heap.size ≤ b') : KX b w0 w' :=
  Keep.trans h (k.mono fun i hi => ⟨Nat.lt_of_lt_of_le hi.1 h.size, by have := hi.1; have := hi.2; omega⟩)
theorem Ext.kx {b' : Nat} {w0 w w' : World} (h : Ext w0 w) (k : KX b' w w') (hb : w0.heap.size ≤ b') : Ext w0 w' :=
  Keep.trans h (k.mono fun i hi => ⟨Nat.lt_of_lt_of_le hi h.size, by have : i < w0.heap.size := hi; omega⟩)
theorem Blk.kx {w w' : World} {b b' : Nat} {T : TypeId} {cs : List Value} (h : Blk w b T cs) (k : KX b' w w') (hb : b ≠ b') : Blk w' b T cs := h.keep k ⟨h.lt, hb⟩
theorem SAt.kx {lo hi : Nat} {w w' : World} {a : Option Addr} {cs : List Value} {b' : Nat} (h : SAt lo hi w a cs) (k : KX b' w w') (hb : b' < lo ∨ hi ≤ b') : SAt lo hi w' a cs := by
  rcases h with h | ⟨b, off, ha, h1, h2, hc⟩
  · exact .inl h
  · refine .inr ⟨b, off, ha, h1, h2, fun i hi => ?_⟩
    have hlt := World.block_lt_of_cell? w _ (hc i hi)
    rw [k.cell (p := ⟨b, off + i, none⟩) ⟨hlt, by show b ≠ b'; omega⟩]
    exact hc i hi

theorem retc {P : Program} {fn : Func} {R : Value → World → Prop} {L : Env} {w : World} {t b off : Nat} {T : TypeId} {cs : List Value} (hr : fn.results = #[.cell t T]) (hv : lk L t = some (ptr b off)) (hs : structOf P T = true) {n : Nat} (hz : size? P T = some n)
    (hc : ∀ j (h : j < cs.length), w.cell? ⟨b, off + j, none⟩ = some cs[j]) (hn : cs.length = n) (h : R (.agg cs.toArray) w) : bodyE P fn R .ret L w :=
  ⟨_, fun tmps ht => by
    subst hn
    have hl := run_loadCellsFrom (P := P) (w := w) b off cs 0 #[] (by simpa using hc)
    simp [results, hr, ht _ _ hv, asAddr, loadVar, run_isAgg_struct hs, run_sizeOf hz, loadCells, hl], h⟩
theorem retc2 {P : Program} {fn : Func} {R : Value → World → Prop} {L : Env} {w : World} {t b off s : Nat} {T : TypeId} {cs : List Value} {u : Value} (hr : fn.results = #[.cell t T, .tmp s]) (hv : lk L t = some (ptr b off)) (hs : structOf P T = true) {n : Nat} (hz : size? P T = some n)
    (hc : ∀ j (h : j < cs.length), w.cell? ⟨b, off + j, none⟩ = some cs[j]) (hn : cs.length = n) (hu : lk L s = some u) (h : R (.tuple #[.agg cs.toArray, u]) w) : bodyE P fn R .ret L w :=
  ⟨_, fun tmps ht => by
    subst hn
    have hl := run_loadCellsFrom (P := P) (w := w) b off cs 0 #[] (by simpa using hc)
    simp [results, hr, ht _ _ hv, ht _ _ hu, asAddr, loadVar, run_isAgg_struct hs, run_sizeOf hz, loadCells, hl], h⟩

/-! ### Slices of equal elements -/
structure Arr (lo hi : Nat) (w : World) (sz : Nat) (a : Option Addr) (c : Nat) (css : List (List Value)) : Prop where
  cap : css.length ≤ c
  len : ∀ r ∈ css, r.length = sz
  sat : SAt lo hi w a css.flatten

theorem flat_len {sz : Nat} : ∀ {css : List (List Value)}, (∀ r ∈ css, r.length = sz) → css.flatten.length = css.length * sz := by
  intro css
  induction css with
  | nil => intro _; simp
  | cons r l ih =>
    intro h
    simp only [List.flatten_cons, List.length_append, List.length_cons]
    rw [h r (by simp), ih (fun q hq => h q (by simp [hq])), Nat.succ_mul]
    omega

theorem flat_get {sz : Nat} : ∀ {css : List (List Value)}, (∀ r ∈ css, r.length = sz) → ∀ {i j : Nat} {r : List Value} {v : Value}, css[i]? = some r → r[j]? = some v → css.flatten[i * sz + j]? = some v := by
  intro css
  induction css with
  | nil => intro _ i j r v h; simp at h
  | cons q l ih =>
    intro h i j r v hi hj
    have hq := h q (by simp)
    cases i with
    | zero =>
      simp only [List.getElem?_cons_zero, Option.some.injEq] at hi
      subst hi
      have : j < q.length := by
        rcases Nat.lt_or_ge j q.length with h | h
        · exact h
        · rw [List.getElem?_eq_none h] at hj; cases hj
      simp only [List.flatten_cons, Nat.zero_mul, Nat.zero_add]
      rw [List.getElem?_append_left this]
      exact hj
    | succ i =>
      simp only [List.getElem?_cons_succ] at hi
      have := ih (fun r hr => h r (by simp [hr])) hi hj
      simp only [List.flatten_cons]
      rw [List.getElem?_append_right (by rw [hq, Nat.succ_mul]; omega), hq]
      rw [show (i + 1) * sz + j - sz = i * sz + j by rw [Nat.succ_mul]; omega]
      exact this

section
variable {lo hi : Nat} {w w' : World} {sz : Nat} {a : Option Addr} {c : Nat} {css : List (List Value)}
theorem Arr.keep {F : Nat → Prop} (h : Arr lo hi w sz a c css) (k : Keep F w w') (hF : ∀ b, lo ≤ b → b < hi → F b) : Arr lo hi w' sz a c css := ⟨h.cap, h.len, h.sat.keep k hF⟩
theorem Arr.ext (h : Arr lo hi w sz a c css) (k : Ext w w') : Arr lo hi w' sz a c css := ⟨h.cap, h.len, h.sat.ext k⟩
theorem Arr.sto {b : Nat} {T : TypeId} {ds : List Value} (h : Arr lo hi w sz a c css) (k : Sto w w' b T ds) (hb : b < lo ∨ hi ≤ b) : Arr lo hi w' sz a c css := ⟨h.cap, h.len, h.sat.sto k hb⟩
theorem Arr.app {a' : Option Addr} {lo' sz' n' c' : Nat} {E : TypeId} {ds : List Value} (h : Arr lo hi w sz a c css) (k : Apd w w' a') (o : Own lo' w E sz' a' n' c' ds) (hb : hi ≤ lo') : Arr lo hi w' sz a c css := ⟨h.cap, h.len, h.sat.app k o hb⟩
theorem Arr.kx {b : Nat} (h : Arr lo hi w sz a c css) (k : KX b w w') (hb : b < lo ∨ hi ≤ b) : Arr lo hi w' sz a c css := ⟨h.cap, h.len, h.sat.kx k hb⟩
theorem Arr.isSome (h : Arr lo hi w sz a c css) (hs : 0 < sz) (hn : 0 < css.length) : a = some ⟨blkOf a, offOf a, none⟩ := h.sat.isSome (by rw [flat_len h.len]; exact Nat.mul_pos hn hs)
theorem Arr.cell (h : Arr lo hi w sz a c css) {i j : Nat} {r : List Value} {v : Value} (hr : css[i]? = some r) (hv : r[j]? = some v) : w.cell? ⟨blkOf a, offOf a + i * sz + j, none⟩ = some v := by
  rw [Nat.add_assoc]; exact h.sat.cell (flat_get h.len hr hv)
theorem Arr.mono {lo' hi' : Nat} (h : Arr lo hi w sz a c css) (h1 : lo' ≤ lo) (h2 : hi ≤ hi') : Arr lo' hi' w sz a c css := ⟨h.cap, h.len, h.sat.mono h1 h2⟩
end

/-! #### ints -/
def Ints (lo hi : Nat) (w : World) (a : Option Addr) (c : Nat) (xs : List Int) : Prop := Arr lo hi w 1 a c (xs.map fun x => [VI x])
section
variable {lo hi : Nat} {w w' : World} {a : Option Addr} {c : Nat} {xs : List Int}
theorem Ints.keep {F : Nat → Prop} (h : Ints lo hi w a c xs) (k : Keep F w w') (hF : ∀ b, lo ≤ b → b < hi → F b) : Ints lo hi w' a c xs := Arr.keep h k hF
theorem Ints.ext (h : Ints lo hi w a c xs) (k : Ext w w') : Ints lo hi w' a c xs := Arr.ext h k
theorem Ints.sto {b : Nat} {T : TypeId} {ds : List Value} (h : Ints lo hi w a c xs) (k : Sto w w' b T ds) (hb : b < lo ∨ hi ≤ b) : Ints lo hi w' a c xs := Arr.sto h k hb
theorem Ints.app {a' : Option Addr} {lo' sz' n' c' : Nat} {E : TypeId} {ds : List Value} (h : Ints lo hi w a c xs) (k : Apd w w' a') (o : Own lo' w E sz' a' n' c' ds) (hb : hi ≤ lo') : Ints lo hi w' a c xs := Arr.app h k o hb
theorem Ints.kx {b : Nat} (h : Ints lo hi w a c xs) (k : KX b w w') (hb : b < lo ∨ hi ≤ b) : Ints lo hi w' a c xs := Arr.kx h k hb
theorem Ints.mono {lo' hi' : Nat} (h : Ints lo hi w a c xs) (h1 : lo' ≤ lo) (h2 : hi ≤ hi') : Ints lo' hi' w a c xs := Arr.mono h h1 h2
theorem Ints.isSome (h : Ints lo hi w a c xs) (hn : 0 < xs.length) : a = some ⟨blkOf a, offOf a, none⟩ := Arr.isSome h (by decide) (by simpa using hn)
theorem Ints.cell (h : Ints lo hi w a c xs) {i : Nat} (hi : i < xs.length) : w.cell? ⟨blkOf a, offOf a + i * 1, none⟩ = some (VI xs[i]) :=
  Arr.cell h (i := i) (j := 0) (r := [VI xs[i]]) (by simp [hi]) rfl
theorem Ints.cap (h : Ints lo hi w a c xs) : xs.length ≤ c := by have := Arr.cap h; simpa using this
theorem ints_flat (xs : List Int) : (xs.map fun x => [VI x]).flatten = xs.map VI := by
  induction xs with
  | nil => rfl
  | cons x r ih => simp [ih]
theorem Ints.sat (h : Ints lo hi w a c xs) : SAt lo hi w a (xs.map VI) := ints_flat xs ▸ Arr.sat h
theorem Ints.mk (hc : xs.length ≤ c) (h : SAt lo hi w a (xs.map VI)) : Ints lo hi w a c xs := ⟨by simpa using hc, by simp, by rw [ints_flat]; exact h⟩
theorem Ints.nil : Ints lo hi w a c [] := Ints.mk (Nat.zero_le _) SAt.nil
theorem Own.ints {lo : Nat} {E : TypeId} {n : Nat} (h : Own lo w E 1 a n c (xs.map VI)) : Ints lo w.heap.size w a c xs ∧ n = xs.length := by
  have := h.cap
  simp at this
  exact ⟨Ints.mk (by omega) h.sat, by omega⟩
end

/-! #### pairs of ints -/
def Pairs (lo hi : Nat) (w : World) (a : Option Addr) (c : Nat) (xs : List (Int × Int)) : Prop := Arr lo hi w 2 a c (xs.map fun x => [VI x.1, VI x.2])
section
variable {lo hi : Nat} {w w' : World} {a : Option Addr} {c : Nat} {xs : List (Int × Int)}
theorem Pairs.keep {F : Nat → Prop} (h : Pairs lo hi w a c xs) (k : Keep F w w') (hF : ∀ b, lo ≤ b → b < hi → F b) : Pairs lo hi w' a c xs := Arr.keep h k hF
theorem Pairs.ext (h : Pairs lo hi w a c xs) (k : Ext w w') : Pairs lo hi w' a c xs := Arr.ext h k
theorem Pairs.sto {b : Nat} {T : TypeId} {ds : List Value} (h : Pairs lo hi w a c xs) (k : Sto w w' b T ds) (hb : b < lo ∨ hi ≤ b) : Pairs lo hi w' a c xs := Arr.sto h k hb
theorem Pairs.app {a' : Option Addr} {lo' sz' n' c' : Nat} {E : TypeId} {ds : List Value} (h : Pairs lo hi w a c xs) (k : Apd w w' a') (o : Own lo' w E sz' a' n' c' ds) (hb : hi ≤ lo') : Pairs lo hi w' a c xs := Arr.app h k o hb
theorem Pairs.kx {b : Nat} (h : Pairs lo hi w a c xs) (k : KX b w w') (hb : b < lo ∨ hi ≤ b) : Pairs lo hi w' a c xs := Arr.kx h k hb
theorem Pairs.mono {lo' hi' : Nat} (h : Pairs lo hi w a c xs) (h1 : lo' ≤ lo) (h2 : hi ≤ hi') : Pairs lo' hi' w a c xs := Arr.mono h h1 h2
theorem Pairs.isSome (h : Pairs lo hi w a c xs) (hn : 0 < xs.length) : a = some ⟨blkOf a, offOf a, none⟩ := Arr.isSome h (by decide) (by simpa using hn)
theorem Pairs.fst (h : Pairs lo hi w a c xs) {i : Nat} (hi : i < xs.length) : w.cell? ⟨blkOf a, offOf a + i * 2 + 0, none⟩ = some (VI xs[i].1) :=
  Arr.cell h (i := i) (j := 0) (r := [VI xs[i].1, VI xs[i].2]) (by simp [hi]) rfl
theorem Pairs.snd (h : Pairs lo hi w a c xs) {i : Nat} (hi : i < xs.length) : w.cell? ⟨blkOf a, offOf a + i * 2 + 1, none⟩ = some (VI xs[i].2) :=
  Arr.cell h (i := i) (j := 1) (r := [VI xs[i].1, VI xs[i].2]) (by simp [hi]) rfl
theorem Pairs.cells (h : Pairs lo hi w a c xs) {i : Nat} (hi : i < xs.length) : ∀ j (hj : j < [VI xs[i].1, VI xs[i].2].length), w.cell? ⟨blkOf a, offOf a + i * 2 + j, none⟩ = some [VI xs[i].1, VI xs[i].2][j] := by
  intro j hj
  exact Arr.cell h (i := i) (r := [VI xs[i].1, VI xs[i].2]) (by simp [hi]) (List.getElem?_eq_getElem hj)
theorem Pairs.cap (h : Pairs lo hi w a c xs) : xs.length ≤ c := by have := Arr.cap h; simpa using this
def pairCells (xs : List (Int × Int)) : List Value := (xs.map fun x => [VI x.1, VI x.2]).flatten
theorem Pairs.sat (h : Pairs lo hi w a c xs) : SAt lo hi w a (pairCells xs) := Arr.sat h
theorem Pairs.mk (hc : xs.length ≤ c) (h : SAt lo hi w a (pairCells xs)) : Pairs lo hi w a c xs := ⟨by simpa using hc, fun r hr => by obtain ⟨p, _, rfl⟩ := List.mem_map.1 hr; rfl, h⟩
theorem Pairs.nil : Pairs lo hi w a c [] := Pairs.mk (Nat.zero_le _) SAt.nil
theorem pairCells_cons (p : Int × Int) (xs : List (Int × Int)) : pairCells (p :: xs) = VI p.1 :: VI p.2 :: pairCells xs := rfl
theorem pairCells_append (xs ys : List (Int × Int)) : pairCells (xs ++ ys) = pairCells xs ++ pairCells ys := by simp [pairCells]
theorem pairCells_length (xs : List (Int × Int)) : (pairCells xs).length = xs.length * 2 := flat_len (sz := 2) (fun r hr => by obtain ⟨p, _, rfl⟩ := List.mem_map.1 hr; rfl) |>.trans (by simp)
theorem pairCells_one (xs : List (Int × Int)) : ∀ v ∈ pairCells xs, v.oneCell' = true := by
  intro v hv
  simp only [pairCells, List.mem_flatten, List.mem_map] at hv
  obtain ⟨l, ⟨p, _, rfl⟩, hv⟩ := hv
  simp at hv
  rcases hv with rfl | rfl <;> rfl
theorem ints_one (xs : List Int) : ∀ v ∈ xs.map VI, v.oneCell' = true := by
  intro v hv
  obtain ⟨p, _, rfl⟩ := List.mem_map.1 hv
  rfl
theorem Blk.pairs {T : TypeId} {b : Nat} (h : Blk w b T (pairCells xs)) (hc : xs.length ≤ c) : Pairs b (b + 1) w (some ⟨b, 0, none⟩) c xs := Pairs.mk hc (SAt.of_blk (ds := []) (by simpa using h))
theorem Blk.ints {T : TypeId} {b : Nat} {ys : List Int} (h : Blk w b T (ys.map VI)) (hc : ys.length ≤ c) : Ints b (b + 1) w (some ⟨b, 0, none⟩) c ys := Ints.mk hc (SAt.of_blk (ds := []) (by simpa using h))
end

/-! #### slices whose elements hold a slice each -/
/-- 'cells': an element's cells, given its inner slice's address and capacity; 'inner': what that slice holds, by R. -/
def Nest {α β : Type} (sz : Nat) (cells : Option Addr × Nat → β → List Value) (inner : β → List α) (R : Nat → Nat → World → Option Addr → Nat → List α → Prop) (lo hi : Nat) (w : World) (a : Option Addr) (c : Nat) (xs : List β) : Prop :=
  ∃ vs : List (Option Addr × Nat), vs.length = xs.length ∧ Arr lo hi w sz a c ((vs.zip xs).map fun p => cells p.1 p.2) ∧ ∀ i (h : i < xs.length) (h' : i < vs.length), R lo hi w vs[i].1 vs[i].2 (inner xs[i])

def rowCells {α : Type} (v : Option Addr × Nat) (x : List α) : List Value := [.slice v.1 x.length v.2]
abbrev Lls {α : Type} (R : Nat → Nat → World → Option Addr → Nat → List α → Prop) := Nest (β := List α) 1 rowCells id R
abbrev Cl := Int × List Int × Int
def clCells (v : Option Addr × Nat) (x : Cl) : List Value := [VI x.1, .slice v.1 x.2.1.length v.2, VI x.2.2]

section
variable {α β : Type} {sz : Nat} {cells : Option Addr × Nat → β → List Value} {inner : β → List α} {R : Nat → Nat → World → Option Addr → Nat → List α → Prop} {lo hi : Nat} {w w' : World} {a : Option Addr} {c : Nat} {xs : List β}
theorem Nest.gen (hR : ∀ a c xs, R lo hi w a c xs → R lo hi w' a c xs) (hA : ∀ css, Arr lo hi w sz a c css → Arr lo hi w' sz a c css) (h : Nest sz cells inner R lo hi w a c xs) : Nest sz cells inner R lo hi w' a c xs := by
  obtain ⟨vs, hl, h1, h2⟩ := h
  exact ⟨vs, hl, hA _ h1, fun i hi h' => hR _ _ _ (h2 i hi h')⟩
theorem Nest.isSome' (hs : 0 < sz) (h : Nest sz cells inner R lo hi w a c xs) (hn : 0 < xs.length) : a = some ⟨blkOf a, offOf a, none⟩ := by
  obtain ⟨vs, hl, h1, _⟩ := h
  exact Arr.isSome h1 hs (by simp; omega)
theorem Nest.isSome (h : Nest sz cells inner R lo hi w a c xs) (hn : 0 < xs.length) (hs : 0 < sz := by decide) : a = some ⟨blkOf a, offOf a, none⟩ := Nest.isSome' hs h hn
/-- Element i: its cells, and its inner slice. -/
theorem Nest.at (h : Nest sz cells inner R lo hi w a c xs) {i : Nat} (hi' : i < xs.length) :
    ∃ a' c', (∀ j (hj : j < (cells (a', c') xs[i]).length), w.cell? ⟨blkOf a, offOf a + i * sz + j, none⟩ = some (cells (a', c') xs[i])[j]) ∧ R lo hi w a' c' (inner xs[i]) := by
  obtain ⟨vs, hl, h1, h2⟩ := h
  refine ⟨vs[i].1, vs[i].2, fun j hj => ?_, h2 i hi' (by omega)⟩
  refine Arr.cell h1 (i := i) (j := j) (r := cells vs[i] xs[i]) ?_ (List.getElem?_eq_getElem hj)
  have hlt : i < (vs.zip xs).length := by simp; omega
  rw [List.getElem?_map, List.getElem?_eq_getElem hlt, List.getElem_zip]
  rfl
theorem Nest.cap (h : Nest sz cells inner R lo hi w a c xs) : xs.length ≤ c := by
  obtain ⟨vs, hl, h1, _⟩ := h
  have := h1.cap
  simp at this
  omega
theorem Nest.nil : Nest sz cells inner R lo hi w a c [] := ⟨[], rfl, ⟨by simp, by simp, SAt.nil⟩, fun i hi => by simp at hi⟩
theorem Nest.imp {R' : Nat → Nat → World → Option Addr → Nat → List α → Prop} (hR : ∀ a c xs, R lo hi w a c xs → R' lo hi w a c xs) (h : Nest sz cells inner R lo hi w a c xs) : Nest sz cells inner R' lo hi w a c xs := by
  obtain ⟨vs, hl, h1, h2⟩ := h
  exact ⟨vs, hl, h1, fun i hi h' => hR _ _ _ (h2 i hi h')⟩
end
section
variable {α : Type} {R : Nat → Nat → World → Option Addr → Nat → List α → Prop} {lo hi : Nat} {w : World} {a : Option Addr} {c : Nat} {xss : List (List α)}
theorem Nest.row (h : Lls R lo hi w a c xss) {i : Nat} (hi' : i < xss.length) : ∃ a' c', w.cell? ⟨blkOf a, offOf a + i * 1, none⟩ = some (.slice a' xss[i].length c') ∧ R lo hi w a' c' xss[i] := by
  obtain ⟨a', c', h1, h2⟩ := Nest.at h hi'
  exact ⟨a', c', h1 0 (by simp [rowCells]), h2⟩
end

/-- What is carried along. -/
class Car {α : Type} (R : Nat → Nat → World → Option Addr → Nat → List α → Prop) : Prop where
  keep : ∀ {lo hi : Nat} {w w' : World} {a : Option Addr} {c : Nat} {xs : List α} {F : Nat → Prop}, R lo hi w a c xs → Keep F w w' → (∀ b, lo ≤ b → b < hi → F b) → R lo hi w' a c xs
  ext : ∀ {lo hi : Nat} {w w' : World} {a : Option Addr} {c : Nat} {xs : List α}, R lo hi w a c xs → Ext w w' → R lo hi w' a c xs
  app : ∀ {lo hi : Nat} {w w' : World} {a : Option Addr} {c : Nat} {xs : List α} {a' : Option Addr} {lo' sz' n' c' : Nat} {E : TypeId} {ds : List Value}, R lo hi w a c xs → Apd w w' a' → Own lo' w E sz' a' n' c' ds → hi ≤ lo' → R lo hi w' a c xs
  kx : ∀ {lo hi : Nat} {w w' : World} {a : Option Addr} {c : Nat} {xs : List α} {b : Nat}, R lo hi w a c xs → KX b w w' → (b < lo ∨ hi ≤ b) → R lo hi w' a c xs
  mono : ∀ {lo hi lo' hi' : Nat} {w : World} {a : Option Addr} {c : Nat} {xs : List α}, R lo hi w a c xs → lo' ≤ lo → hi ≤ hi' → R lo' hi' w a c xs
instance : Car Ints := ⟨Ints.keep, Ints.ext, Ints.app, Ints.kx, Ints.mono⟩
instance : Car Pairs := ⟨Pairs.keep, Pairs.ext, Pairs.app, Pairs.kx, Pairs.mono⟩

section
variable {α β : Type} {sz : Nat} {cells : Option Addr × Nat → β → List Value} {inner : β → List α} {R : Nat → Nat → World → Option Addr → Nat → List α → Prop} [Car R] {lo hi : Nat} {w w' : World} {a : Option Addr} {c : Nat} {xs : List β}
theorem Nest.keep {F : Nat → Prop} (h : Nest sz cells inner R lo hi w a c xs) (k : Keep F w w') (hF : ∀ b, lo ≤ b → b < hi → F b) : Nest sz cells inner R lo hi w' a c xs := Nest.gen (fun _ _ _ h => Car.keep h k hF) (fun _ h => h.keep k hF) h
theorem Nest.ext (h : Nest sz cells inner R lo hi w a c xs) (k : Ext w w') : Nest sz cells inner R lo hi w' a c xs := Nest.gen (fun _ _ _ h => Car.ext h k) (fun _ h => h.ext k) h
theorem Nest.sto {b : Nat} {T : TypeId} {ds : List Value} (h : Nest sz cells inner R lo hi w a c xs) (k : Sto w w' b T ds) (hb : b < lo ∨ hi ≤ b) : Nest sz cells inner R lo hi w' a c xs := h.keep k.keep fun q h1 h2 => by show q ≠ b; omega
theorem Nest.app {a' : Option Addr} {lo' sz' n' c' : Nat} {E : TypeId} {ds : List Value} (h : Nest sz cells inner R lo hi w a c xs) (k : Apd w w' a') (o : Own lo' w E sz' a' n' c' ds) (hb : hi ≤ lo') : Nest sz cells inner R lo hi w' a c xs :=
  Nest.gen (fun _ _ _ h => Car.app h k o hb) (fun _ h => h.app k o hb) h
theorem Nest.kx {b : Nat} (h : Nest sz cells inner R lo hi w a c xs) (k : KX b w w') (hb : b < lo ∨ hi ≤ b) : Nest sz cells inner R lo hi w' a c xs := Nest.gen (fun _ _ _ h => Car.kx h k hb) (fun _ h => h.kx k hb) h
theorem Nest.mono {lo' hi' : Nat} (h : Nest sz cells inner R lo hi w a c xs) (h1 : lo' ≤ lo) (h2 : hi ≤ hi') : Nest sz cells inner R lo' hi' w a c xs := by
  obtain ⟨vs, hl, ha, hr⟩ := h
  exact ⟨vs, hl, ha.mono h1 h2, fun i hi h' => Car.mono (hr i hi h') h1 h2⟩
end
abbrev Intss := Lls Ints
abbrev Pairss := Lls Pairs
abbrev Clauses := Nest (β := Cl) 3 clCells (fun x => x.2.1) Ints

theorem Nest.cl {lo hi : Nat} {w : World} {a : Option Addr} {c : Nat} {xs : List Cl} (h : Clauses lo hi w a c xs) {i : Nat} (hi' : i < xs.length) :
    ∃ a' c', (∀ j (hj : j < [VI xs[i].1, .slice a' xs[i].2.1.length c', VI xs[i].2.2].length), w.cell? ⟨blkOf a, offOf a + i * 3 + j, none⟩ = some [VI xs[i].1, .slice a' xs[i].2.1.length c', VI xs[i].2.2][j]) ∧ Ints lo hi w a' c' xs[i].2.1 := by
  obtain ⟨a', c', h1, h2⟩ := Nest.at h hi'
  exact ⟨a', c', h1, h2⟩

/-! ### Fresh: a block of its own, that may be written -/
structure FArr (lo hi : Nat) (w : World) (sz : Nat) (a : Option Addr) (c : Nat) (css : List (List Value)) : Prop where
  cap : css.length ≤ c
  len : ∀ r ∈ css, r.length = sz
  own : css = [] ∨ ∃ b T ds, a = some ⟨b, 0, none⟩ ∧ lo ≤ b ∧ b < hi ∧ Blk w b T (css.flatten ++ ds)
section
variable {lo hi : Nat} {w w' : World} {sz : Nat} {a : Option Addr} {c : Nat} {css : List (List Value)}
theorem FArr.gen (h : FArr lo hi w sz a c css) (hb : ∀ b T cs, lo ≤ b → b < hi → Blk w b T cs → Blk w' b T cs) : FArr lo hi w' sz a c css := by
  refine ⟨h.cap, h.len, ?_⟩
  rcases h.own with h | ⟨b, T, ds, ha, h1, h2, hB⟩
  · exact .inl h
  · exact .inr ⟨b, T, ds, ha, h1, h2, hb b T _ h1 h2 hB⟩
theorem FArr.arr (h : FArr lo hi w sz a c css) : Arr lo hi w sz a c css := by
  refine ⟨h.cap, h.len, ?_⟩
  rcases h.own with h | ⟨b, T, ds, ha, h1, h2, hB⟩
  · subst h; exact SAt.nil
  · subst ha; exact (SAt.of_blk hB).mono h1 (by omega)
theorem FArr.mono {lo' hi' : Nat} (h : FArr lo hi w sz a c css) (h1 : lo' ≤ lo) (h2 : hi ≤ hi') : FArr lo' hi' w sz a c css := by
  refine ⟨h.cap, h.len, ?_⟩
  rcases h.own with h | ⟨b, T, ds, ha, h3, h4, hB⟩
  · exact .inl h
  · exact .inr ⟨b, T, ds, ha, by omega, by omega, hB⟩
theorem FArr.keep {F : Nat → Prop} (h : FArr lo hi w sz a c css) (k : Keep F w w') (hF : ∀ b, lo ≤ b → b < hi → F b) : FArr lo hi w' sz a c css := h.gen fun b T cs h1 h2 hB => hB.keep k (hF b h1 h2)
theorem FArr.ext (h : FArr lo hi w sz a c css) (k : Ext w w') : FArr lo hi w' sz a c css := h.gen fun b T cs h1 h2 hB => hB.ext k
theorem FArr.kx {b : Nat} (h : FArr lo hi w sz a c css) (k : KX b w w') (hb : b < lo ∨ hi ≤ b) : FArr lo hi w' sz a c css := h.gen fun b' T cs h1 h2 hB => hB.kx k (by omega)
theorem FArr.app {a' : Option Addr} {lo' sz' n' c' : Nat} {E : TypeId} {ds : List Value} (h : FArr lo hi w sz a c css) (k : Apd w w' a') (o : Own lo' w E sz' a' n' c' ds) (hb : hi ≤ lo') : FArr lo hi w' sz a c css := h.gen fun b' T cs h1 h2 hB => hB.app k o (by omega)
end
def FInts (lo hi : Nat) (w : World) (a : Option Addr) (c : Nat) (xs : List Int) : Prop := FArr lo hi w 1 a c (xs.map fun x => [VI x])
def FPairs (lo hi : Nat) (w : World) (a : Option Addr) (c : Nat) (xs : List (Int × Int)) : Prop := FArr lo hi w 2 a c (xs.map fun x => [VI x.1, VI x.2])
instance : Car FInts := ⟨FArr.keep, FArr.ext, FArr.app, FArr.kx, FArr.mono⟩
instance : Car FPairs := ⟨FArr.keep, FArr.ext, FArr.app, FArr.kx, FArr.mono⟩
section
variable {lo hi : Nat} {w w' : World} {a : Option Addr} {c : Nat} {xs : List Int} {ps : List (Int × Int)}
theorem FInts.is (h : FInts lo hi w a c xs) : Ints lo hi w a c xs := FArr.arr h
theorem FPairs.is (h : FPairs lo hi w a c ps) : Pairs lo hi w a c ps := FArr.arr h
theorem FInts.ext (h : FInts lo hi w a c xs) (k : Ext w w') : FInts lo hi w' a c xs := FArr.ext h k
theorem FPairs.ext (h : FPairs lo hi w a c ps) (k : Ext w w') : FPairs lo hi w' a c ps := FArr.ext h k
theorem FInts.mono {lo' hi' : Nat} (h : FInts lo hi w a c xs) (h1 : lo' ≤ lo) (h2 : hi ≤ hi') : FInts lo' hi' w a c xs := FArr.mono h h1 h2
theorem FPairs.mono {lo' hi' : Nat} (h : FPairs lo hi w a c ps) (h1 : lo' ≤ lo) (h2 : hi ≤ hi') : FPairs lo' hi' w a c ps := FArr.mono h h1 h2
theorem FInts.sto {b : Nat} {T : TypeId} {ds : List Value} (h : FInts lo hi w a c xs) (k : Sto w w' b T ds) (hb : b < lo ∨ hi ≤ b) : FInts lo hi w' a c xs := FArr.keep h k.keep fun q h1 h2 => by show q ≠ b; omega
theorem FPairs.sto {b : Nat} {T : TypeId} {ds : List Value} (h : FPairs lo hi w a c ps) (k : Sto w w' b T ds) (hb : b < lo ∨ hi ≤ b) : FPairs lo hi w' a c ps := FArr.keep h k.keep fun q h1 h2 => by show q ≠ b; omega
theorem FInts.kx {b : Nat} (h : FInts lo hi w a c xs) (k : KX b w w') (hb : b < lo ∨ hi ≤ b) : FInts lo hi w' a c xs := FArr.kx h k hb
theorem FPairs.kx {b : Nat} (h : FPairs lo hi w a c ps) (k : KX b w w') (hb : b < lo ∨ hi ≤ b) : FPairs lo hi w' a c ps := FArr.kx h k hb
theorem FInts.of_blk {T : TypeId} {b : Nat} (h : Blk w b T (xs.map VI)) (h1 : lo ≤ b) (h2 : b < hi) (hc : xs.length ≤ c) : FInts lo hi w (some ⟨b, 0, none⟩) c xs :=
  ⟨by simpa using hc, by simp, .inr ⟨b, T, [], rfl, h1, h2, by rw [ints_flat]; simpa using h⟩⟩
theorem FPairs.of_blk {T : TypeId} {b : Nat} (h : Blk w b T (pairCells ps)) (h1 : lo ≤ b) (h2 : b < hi) (hc : ps.length ≤ c) : FPairs lo hi w (some ⟨b, 0, none⟩) c ps :=
  ⟨by simpa using hc, fun r hr => by obtain ⟨p, _, rfl⟩ := List.mem_map.1 hr; rfl, .inr ⟨b, T, [], rfl, h1, h2, by rw [List.append_nil]; exact h⟩⟩
end

/-- Fresh, and each element's inner slice too, in later blocks. -/
def FNest {α β : Type} (sz : Nat) (cells : Option Addr × Nat → β → List Value) (inner : β → List α) (R : Nat → Nat → World → Option Addr → Nat → List α → Prop) (lo hi : Nat) (w : World) (a : Option Addr) (c : Nat) (xs : List β) : Prop :=
  ∃ (vs : List (Option Addr × Nat)) (b : Nat), vs.length = xs.length ∧ a = some ⟨b, 0, none⟩ ∧ lo ≤ b ∧ FArr b (b + 1) w sz a c ((vs.zip xs).map fun p => cells p.1 p.2) ∧ b < hi ∧ ∀ i (h : i < xs.length) (h' : i < vs.length), R (b + 1) hi w vs[i].1 vs[i].2 (inner xs[i])
section
variable {α β : Type} {sz : Nat} {cells : Option Addr × Nat → β → List Value} {inner : β → List α} {R R' : Nat → Nat → World → Option Addr → Nat → List α → Prop} {lo hi : Nat} {w : World} {a : Option Addr} {c : Nat} {xs : List β}
theorem FNest.is (hR : ∀ lo hi a c xs, R lo hi w a c xs → R' lo hi w a c xs) (hm : ∀ {lo hi lo' hi' : Nat} {a : Option Addr} {c : Nat} {xs : List α}, R' lo hi w a c xs → lo' ≤ lo → hi ≤ hi' → R' lo' hi' w a c xs) (h : FNest sz cells inner R lo hi w a c xs) : Nest sz cells inner R' lo hi w a c xs := by
  obtain ⟨vs, b, hl, ha, h1, hF, h2, h3⟩ := h
  exact ⟨vs, hl, hF.arr.mono h1 (by omega), fun i hi h' => hm (hR _ _ _ _ _ (h3 i hi h')) (by omega) (Nat.le_refl _)⟩
end
section
variable {α β : Type} {sz : Nat} {cells : Option Addr × Nat → β → List Value} {inner : β → List α} {R R' : Nat → Nat → World → Option Addr → Nat → List α → Prop} [Car R] {lo hi : Nat} {w w' : World} {a : Option Addr} {c : Nat} {xs : List β}
theorem FNest.ext (h : FNest sz cells inner R lo hi w a c xs) (k : Ext w w') : FNest sz cells inner R lo hi w' a c xs := by
  obtain ⟨vs, b, hl, ha, h1, hF, h2, h3⟩ := h
  exact ⟨vs, b, hl, ha, h1, hF.ext k, h2, fun i hi h' => Car.ext (h3 i hi h') k⟩
theorem FNest.sto {b : Nat} {T : TypeId} {ds : List Value} (h : FNest sz cells inner R lo hi w a c xs) (k : Sto w w' b T ds) (hb : b < lo ∨ hi ≤ b) : FNest sz cells inner R lo hi w' a c xs := by
  obtain ⟨vs, b', hl, ha, h1, hF, h2, h3⟩ := h
  exact ⟨vs, b', hl, ha, h1, hF.keep k.keep fun q _ _ => (by show q ≠ b; omega), h2, fun i hi h' => Car.keep (h3 i hi h') k.keep fun q _ _ => (by show q ≠ b; omega)⟩
theorem FNest.mono {lo' hi' : Nat} (h : FNest sz cells inner R lo hi w a c xs) (h1 : lo' ≤ lo) (h2 : hi ≤ hi') : FNest sz cells inner R lo' hi' w a c xs := by
  obtain ⟨vs, b', hl, ha, h3, hF, h4, h5⟩ := h
  exact ⟨vs, b', hl, ha, by omega, hF, by omega, fun i hi h' => Car.mono (h5 i hi h') (Nat.le_refl _) h2⟩
end
abbrev FIntss := FNest (β := List Int) 1 rowCells id FInts
abbrev FPairss := FNest (β := List (Int × Int)) 1 rowCells id FPairs
abbrev FClauses := FNest (β := Cl) 3 clCells (fun x => x.2.1) FInts
theorem FIntss.is {lo hi : Nat} {w : World} {a : Option Addr} {c : Nat} {xs : List (List Int)} (h : FIntss lo hi w a c xs) : Intss lo hi w a c xs := FNest.is (fun _ _ _ _ _ h => FInts.is h) Ints.mono h
theorem FPairss.is {lo hi : Nat} {w : World} {a : Option Addr} {c : Nat} {xs : List (List (Int × Int))} (h : FPairss lo hi w a c xs) : Pairss lo hi w a c xs := FNest.is (fun _ _ _ _ _ h => FPairs.is h) Pairs.mono h
theorem FClauses.is {lo hi : Nat} {w : World} {a : Option Addr} {c : Nat} {xs : List Cl} (h : FClauses lo hi w a c xs) : Clauses lo hi w a c xs := FNest.is (fun _ _ _ _ _ h => FInts.is h) Ints.mono h

/-! ### A slice that is filled place by place -/
def fillG {α : Type} (f : α → List Value) (z : List Value) (xs : List α) (i : Nat) : List Value := (xs.take i).flatMap f ++ (List.replicate (xs.length - i) z).flatten

section
variable {α : Type} {f : α → List Value} {z : List Value} {xs : List α} {i sz : Nat}
theorem flatMap_len (h : ∀ x ∈ xs, (f x).length = sz) : (xs.flatMap f).length = xs.length * sz := by
  induction xs with
  | nil => simp
  | cons x r ih =>
    simp only [List.flatMap_cons, List.length_append, List.length_cons]
    rw [h x (by simp), ih (fun y hy => h y (by simp [hy])), Nat.succ_mul]; omega
theorem fillG_zero : fillG f z xs 0 = (List.replicate xs.length z).flatten := by simp [fillG]
theorem fillG_full : fillG f z xs xs.length = xs.flatMap f := by simp [fillG]
theorem fillG_length (h : ∀ x ∈ xs, (f x).length = sz) (hz : z.length = sz) (hi : i ≤ xs.length) : (fillG f z xs i).length = xs.length * sz := by
  unfold fillG
  rw [List.length_append, flatMap_len (sz := sz) (fun x hx => h x (List.mem_of_mem_take hx)), List.length_flatten]
  simp [hz, List.length_take, Nat.min_eq_left hi]
  rw [← Nat.add_mul]
  congr 1
  omega
theorem fillG_step (h : ∀ x ∈ xs, (f x).length = sz) (hz : z.length = sz) (hi : i < xs.length) :
    (fillG f z xs i).take (i * sz) ++ f xs[i] ++ (fillG f z xs i).drop (i * sz + sz) = fillG f z xs (i + 1) := by
  have hl : ((xs.take i).flatMap f).length = i * sz := by
    rw [flatMap_len (sz := sz) (fun x hx => h x (List.mem_of_mem_take hx)), List.length_take, Nat.min_eq_left (by omega)]
  unfold fillG
  rw [List.take_append_of_le_length (by omega), List.take_of_length_le (by omega), List.drop_append, List.drop_eq_nil_of_le (by omega), List.nil_append, hl]
  rw [show i * sz + sz - i * sz = sz by omega, show xs.length - i = (xs.length - (i + 1)) + 1 by omega, List.replicate_succ, List.flatten_cons, List.drop_append, ← hz, List.drop_length, Nat.sub_self, List.drop_zero, List.nil_append]
  rw [List.take_succ_eq_append_getElem hi, List.flatMap_append]
  simp
end

theorem set_eq_take_drop {α : Type} {l : List α} {i : Nat} {v : α} (h : i < l.length) : l.set i v = l.take i ++ [v] ++ l.drop (i + 1) := by
  rw [List.set_eq_take_append_cons_drop, if_pos h]; simp

/-- Store number i into a block that is filled place by place. -/
theorem fill_stores {α : Type} {f : α → List Value} {z : List Value} {xs : List α} {i sz : Nat} {w : World} {b : Nat} {T : TypeId} {vs : List Value} (h : ∀ x ∈ xs, (f x).length = sz) (hz : z.length = sz) (hi : i < xs.length) (hv : vs = f xs[i])
    (hB : Blk w b T ((fillG f z xs i).take (0 + ((i : Nat) : Int).toNat * sz) ++ vs ++ (fillG f z xs i).drop (0 + ((i : Nat) : Int).toNat * sz + vs.length))) : Blk w b T (fillG f z xs (i + 1)) := by
  have := fillG_step (f := f) (z := z) (sz := sz) (xs := xs) (i := i) h hz hi
  subst hv
  rw [Nat.zero_add, Int.toNat_natCast, h _ (List.getElem_mem hi)] at hB
  rw [← this]
  exact hB
theorem fill_store {α : Type} {f : α → List Value} {z : Value} {xs : List α} {i : Nat} {w : World} {b : Nat} {T : TypeId} {v : Value} (h : ∀ x ∈ xs, (f x).length = 1) (hi : i < xs.length) (hv : [v] = f xs[i])
    (hB : Blk w b T ((fillG f [z] xs i).set (0 + ((i : Nat) : Int).toNat * 1) v)) : Blk w b T (fillG f [z] xs (i + 1)) := by
  have := fillG_step (f := f) (z := [z]) (sz := 1) (xs := xs) (i := i) h rfl hi
  have hl : (fillG f [z] xs i).length = xs.length * 1 := fillG_length h rfl (by omega)
  rw [Nat.zero_add, Int.toNat_natCast, Nat.mul_one, set_eq_take_drop (by rw [hl]; omega), hv] at hB
  rw [← this, Nat.mul_one]
  exact hB
theorem fill1_zero {α : Type} {f : α → List Value} {z : Value} (xs : List α) : List.replicate xs.length z = fillG f [z] xs 0 := by
  rw [fillG_zero]
  generalize xs.length = n
  induction n with
  | zero => rfl
  | succ n ih => rw [List.replicate_succ, List.replicate_succ, List.flatten_cons, ih]; rfl

def pairF (p : Int × Int) : List Value := [VI p.1, VI p.2]
theorem pairF_flat (xs : List (Int × Int)) : xs.flatMap pairF = pairCells xs := rfl
abbrev fillP (xs : List (Int × Int)) (i : Nat) : List Value := fillG pairF [VI 0, VI 0] xs i
theorem fillP_store {w : World} {b : Nat} {T : TypeId} {xs : List (Int × Int)} {i : Nat} (hi : i < xs.length)
    (h : Blk w b T ((fillP xs i).take (0 + ((i : Nat) : Int).toNat * 2) ++ [VI xs[i].1, VI xs[i].2] ++ (fillP xs i).drop (0 + ((i : Nat) : Int).toNat * 2 + 2))) : Blk w b T (fillP xs (i + 1)) := by
  have := fillG_step (f := pairF) (z := [VI 0, VI 0]) (sz := 2) (xs := xs) (i := i) (fun _ _ => rfl) rfl hi
  rw [Nat.zero_add, Int.toNat_natCast] at h
  change Blk w b T (fillG pairF [VI 0, VI 0] xs (i + 1))
  rw [← this]
  exact h
theorem fillP_length {xs : List (Int × Int)} {i : Nat} (hi : i ≤ xs.length) : (fillP xs i).length = xs.length * 2 := fillG_length (fun _ _ => rfl) rfl hi

theorem fillP_done {xs : List (Int × Int)} {i : Nat} (h : i = xs.length) : fillP xs i = pairCells xs := by subst h; exact fillG_full
def intF (x : Int) : List Value := [VI x]
theorem intF_flat (xs : List Int) : xs.flatMap intF = xs.map VI := by
  induction xs with
  | nil => rfl
  | cons x r ih => simp [intF, List.flatMap_cons] at ih ⊢; exact ih
abbrev fillI (xs : List Int) (i : Nat) : List Value := fillG intF [VI 0] xs i
theorem fillI_store {w : World} {b : Nat} {T : TypeId} {xs : List Int} {i : Nat} (hi : i < xs.length) (h : Blk w b T ((fillI xs i).set (0 + ((i : Nat) : Int).toNat * 1) (VI xs[i]))) : Blk w b T (fillI xs (i + 1)) := by
  have := fillG_step (f := intF) (z := [VI 0]) (sz := 1) (xs := xs) (i := i) (fun _ _ => rfl) rfl hi
  have hl : (fillI xs i).length = xs.length * 1 := fillG_length (fun _ _ => rfl) rfl (by omega)
  rw [Nat.zero_add, Int.toNat_natCast, Nat.mul_one, set_eq_take_drop (by rw [hl]; omega)] at h
  change Blk w b T (fillG intF [VI 0] xs (i + 1))
  rw [← this, Nat.mul_one]
  exact h
theorem fillI_length {xs : List Int} {i : Nat} (hi : i ≤ xs.length) : (fillI xs i).length = xs.length := (fillG_length (sz := 1) (fun _ _ => rfl) rfl hi).trans (Nat.mul_one _)
theorem fillI_done {xs : List Int} {i : Nat} (h : i = xs.length) : fillI xs i = xs.map VI := by subst h; exact fillG_full.trans (intF_flat xs)
theorem fillI_zero (xs : List Int) : List.replicate xs.length (VI 0) = fillI xs 0 := by
  change _ = fillG intF [VI 0] xs 0
  rw [fillG_zero]
  generalize xs.length = n
  induction n with
  | zero => rfl
  | succ n ih => rw [List.replicate_succ, List.replicate_succ, List.flatten_cons, ih]; rfl

theorem zip_snoc {α β : Type} (vs : List α) : ∀ (xs : List β) (v : α) (h : vs.length < xs.length), (vs ++ [v]).zip xs = vs.zip xs ++ [(v, xs[vs.length])] := by
  induction vs with
  | nil => intro xs v h; cases xs with
    | nil => simp at h
    | cons x r => simp
  | cons u r ih => intro xs v h; cases xs with
    | nil => simp at h
    | cons x l => simp at h ⊢; exact ih l v h

/-! ### A slice of slices that is filled place by place -/
/-- The inner slices made so far. -/
def FIn {α : Type} (R : Nat → Nat → World → Option Addr → Nat → List α → Prop) (lo hi : Nat) (w : World) (vs : List (Option Addr × Nat)) (ys : List (List α)) : Prop :=
  ∀ i (h : i < vs.length) (h' : i < ys.length), R lo hi w vs[i].1 vs[i].2 ys[i]
section
variable {α : Type} {R : Nat → Nat → World → Option Addr → Nat → List α → Prop} [Car R] {lo hi : Nat} {w w' : World} {vs : List (Option Addr × Nat)} {ys : List (List α)}
theorem FIn.ext (h : FIn R lo hi w vs ys) (k : Ext w w') : FIn R lo hi w' vs ys := fun i h1 h2 => Car.ext (h i h1 h2) k
theorem FIn.sto {b : Nat} {T : TypeId} {ds : List Value} (h : FIn R lo hi w vs ys) (k : Sto w w' b T ds) (hb : b < lo ∨ hi ≤ b) : FIn R lo hi w' vs ys := fun i h1 h2 => Car.keep (h i h1 h2) k.keep fun q _ _ => by show q ≠ b; omega
theorem FIn.kx {b : Nat} (h : FIn R lo hi w vs ys) (k : KX b w w') (hb : b < lo ∨ hi ≤ b) : FIn R lo hi w' vs ys := fun i h1 h2 => Car.kx (h i h1 h2) k hb
theorem FIn.mono {lo' hi' : Nat} (h : FIn R lo hi w vs ys) (h1 : lo' ≤ lo) (h2 : hi ≤ hi') : FIn R lo' hi' w vs ys := fun i h3 h4 => Car.mono (h i h3 h4) h1 h2
end
section
variable {α : Type} {R : Nat → Nat → World → Option Addr → Nat → List α → Prop} {lo hi : Nat} {w w' : World} {vs : List (Option Addr × Nat)} {ys : List (List α)}
theorem FIn.snoc {a : Option Addr} {c : Nat} {y : List α} (h : FIn R lo hi w vs ys) (hv : R lo hi w a c y) (hy : ∀ h : vs.length < ys.length, ys[vs.length] = y) : FIn R lo hi w (vs ++ [(a, c)]) ys := by
  intro i h1 h2
  by_cases hi : i < vs.length
  · have e : (vs ++ [(a, c)])[i] = vs[i] := List.getElem_append_left hi
    rw [e]; exact h i hi h2
  · have hii : i = vs.length := by simp at h1; omega
    subst hii
    simp [hy h2, hv]
end
theorem FIn.nil {α : Type} {R : Nat → Nat → World → Option Addr → Nat → List α → Prop} {lo hi : Nat} {w : World} {ys : List (List α)} : FIn R lo hi w [] ys := fun i h => by simp at h

def fillN {β : Type} (cells : Option Addr × Nat → β → List Value) (z : List Value) (vs : List (Option Addr × Nat)) (xs : List β) : List Value := ((vs.zip xs).map fun p => cells p.1 p.2).flatten ++ (List.replicate (xs.length - vs.length) z).flatten
section
variable {β : Type} {cells : Option Addr × Nat → β → List Value} {z : List Value} {vs : List (Option Addr × Nat)} {xs : List β} {sz : Nat}
theorem fillN_zero : fillN cells z [] xs = (List.replicate xs.length z).flatten := by simp [fillN]
theorem fillN_length (h : ∀ v x, (cells v x).length = sz) (hz : z.length = sz) (hi : vs.length ≤ xs.length) : (fillN cells z vs xs).length = xs.length * sz := by
  unfold fillN
  rw [List.length_append, flat_len (sz := sz) (fun r hr => by obtain ⟨p, _, rfl⟩ := List.mem_map.1 hr; exact h _ _), List.length_flatten]
  simp [hz, Nat.min_eq_left hi]
  rw [← Nat.add_mul]
  congr 1
  omega
theorem fillN_step (h : ∀ v x, (cells v x).length = sz) (hz : z.length = sz) (hi : vs.length < xs.length) (v : Option Addr × Nat) :
    (fillN cells z vs xs).take (vs.length * sz) ++ cells v xs[vs.length] ++ (fillN cells z vs xs).drop (vs.length * sz + sz) = fillN cells z (vs ++ [v]) xs := by
  have hl : (((vs.zip xs).map fun p => cells p.1 p.2).flatten).length = vs.length * sz := by
    rw [flat_len (sz := sz) (fun r hr => by obtain ⟨p, _, rfl⟩ := List.mem_map.1 hr; exact h _ _)]
    simp [Nat.min_eq_left (Nat.le_of_lt hi)]
  have hzip := zip_snoc vs xs v hi
  unfold fillN
  rw [List.take_append_of_le_length (by omega), List.take_of_length_le (by omega), List.drop_append, List.drop_eq_nil_of_le (by omega), List.nil_append, hl]
  rw [show vs.length * sz + sz - vs.length * sz = sz by omega, show xs.length - vs.length = (xs.length - (vs ++ [v]).length) + 1 by simp; omega, List.replicate_succ, List.flatten_cons, List.drop_append, ← hz, List.drop_length, Nat.sub_self, List.drop_zero, List.nil_append]
  rw [hzip]
  simp
theorem fillN_full (hl : vs.length = xs.length) : fillN cells z vs xs = ((vs.zip xs).map fun p => cells p.1 p.2).flatten := by simp [fillN, hl]
theorem fillN_stores {w : World} {b : Nat} {T : TypeId} {us : List Value} {v : Option Addr × Nat} (h : ∀ v x, (cells v x).length = sz) (hz : z.length = sz) (hi : vs.length < xs.length) (hv : us = cells v xs[vs.length])
    (hB : Blk w b T ((fillN cells z vs xs).take (0 + ((vs.length : Nat) : Int).toNat * sz) ++ us ++ (fillN cells z vs xs).drop (0 + ((vs.length : Nat) : Int).toNat * sz + us.length))) : Blk w b T (fillN cells z (vs ++ [v]) xs) := by
  subst hv
  rw [Nat.zero_add, Int.toNat_natCast, h] at hB
  rw [← fillN_step h hz hi v]
  exact hB
theorem fillN_store {w : World} {b : Nat} {T : TypeId} {u z : Value} {v : Option Addr × Nat} (h : ∀ v x, (cells v x).length = 1) (hi : vs.length < xs.length) (hv : [u] = cells v xs[vs.length])
    (hB : Blk w b T ((fillN cells [z] vs xs).set (0 + ((vs.length : Nat) : Int).toNat * 1) u)) : Blk w b T (fillN cells [z] (vs ++ [v]) xs) := by
  have hl : (fillN cells [z] vs xs).length = xs.length * 1 := fillN_length h rfl (by omega)
  rw [Nat.zero_add, Int.toNat_natCast, Nat.mul_one, set_eq_take_drop (by rw [hl]; omega), hv] at hB
  have := fillN_step h (z := [z]) rfl hi v
  rw [Nat.mul_one] at this
  rw [← this]
  exact hB
theorem fillN1_zero {z : Value} : List.replicate xs.length z = fillN cells [z] [] xs := by
  rw [fillN_zero]
  generalize xs.length = n
  induction n with
  | zero => rfl
  | succ n ih => rw [List.replicate_succ, List.replicate_succ, List.flatten_cons, ih]; rfl
theorem FNest.mk {α : Type} {inner : β → List α} {R : Nat → Nat → World → Option Addr → Nat → List α → Prop} {lo hi b c : Nat} {w : World} {T : TypeId} (hsz : ∀ v x, (cells v x).length = sz) (hl : vs.length = xs.length) (hb : lo ≤ b) (hh : b < hi) (hc : xs.length ≤ c)
    (hB : Blk w b T (fillN cells z vs xs)) (hI : FIn R (b + 1) hi w vs (xs.map inner)) : FNest sz cells inner R lo hi w (some ⟨b, 0, none⟩) c xs := by
  refine ⟨vs, b, hl, rfl, hb, ⟨by simp [hl]; omega, fun r hr => by obtain ⟨p, _, rfl⟩ := List.mem_map.1 hr; exact hsz _ _, .inr ⟨b, T, [], rfl, Nat.le_refl _, by omega, ?_⟩⟩, hh, fun i h1 h2 => ?_⟩
  · rw [List.append_nil, ← fillN_full (z := z) hl]; exact hB
  · have := hI i h2 (by simpa using h1)
    simpa using this
end
theorem rowCells_len {α : Type} (v : Option Addr × Nat) (x : List α) : (rowCells v x).length = 1 := rfl
theorem clCells_len (v : Option Addr × Nat) (x : Cl) : (clCells v x).length = 3 := rfl
end Go.Proofs.YtdpdjbfjjlpfgaaGreatDoor
