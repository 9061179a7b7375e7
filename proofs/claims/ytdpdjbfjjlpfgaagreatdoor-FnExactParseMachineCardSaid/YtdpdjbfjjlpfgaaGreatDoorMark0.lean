/- Memory that is overwritten inside a range, and all else kept. No condition. -/
import Derived.Test.YtdpdjbfjjlpfgaaGreatDoorOrows
namespace Go.Proofs.YtdpdjbfjjlpfgaaGreatDoor
open Go Go.RowKit

/-- Blocks in [lo, hi) may have other cells, as many as before; all else is kept. -/
structure Mk (lo hi : Nat) (w w' : World) : Prop where
  keep : Keep (fun b => b < w.heap.size ∧ (b < lo ∨ hi ≤ b)) w w'
  shape : ∀ b T cs, lo ≤ b → b < hi → Blk w b T cs → ∃ cs', Blk w' b T cs' ∧ cs'.length = cs.length
section
variable {lo hi lo' hi' : Nat} {w0 w w' : World}
theorem Mk.size (h : Mk lo hi w w') : w.heap.size ≤ w'.heap.size := h.keep.size
theorem Mk.refl (lo hi : Nat) (w : World) : Mk lo hi w w := ⟨Keep.refl _ w, fun _ _ cs _ _ h => ⟨cs, h, rfl⟩⟩
theorem Mk.blk (h : Mk lo hi w w') {b : Nat} {T : TypeId} {cs : List Value} (hB : Blk w b T cs) : ∃ cs', Blk w' b T cs' ∧ cs'.length = cs.length := by
  by_cases h1 : lo ≤ b ∧ b < hi
  · exact h.shape b T cs h1.1 h1.2 hB
  · exact ⟨cs, hB.keep h.keep ⟨hB.lt, by omega⟩, rfl⟩
theorem Mk.mrk (h : Mk lo hi w0 w) (k : Mk lo' hi' w w') (hb : lo ≤ lo' ∧ hi' ≤ hi) : Mk lo hi w0 w' :=
  ⟨Keep.trans h.keep (k.keep.mono fun q hq => ⟨Nat.lt_of_lt_of_le hq.1 h.size, by omega⟩), fun b T cs h1 h2 hB => by
    obtain ⟨cs1, hB1, e1⟩ := h.shape b T cs h1 h2 hB
    obtain ⟨cs2, hB2, e2⟩ := k.blk hB1
    exact ⟨cs2, hB2, e2.trans e1⟩⟩
theorem Mk.of_sto {b : Nat} {T : TypeId} {ds : List Value} (k : Sto w w' b T ds) (h1 : lo ≤ b) (h2 : b < hi) : Mk lo hi w w' :=
  ⟨k.keep.mono fun q hq => by show q ≠ b; omega, fun b' T' cs _ _ hb => by
    by_cases he : b' = b
    · subst he
      obtain ⟨cs0, h0, hl⟩ := k.old
      have e : Obj.cells cs.toArray T' (0, 0) = Obj.cells cs0.toArray T (0, 0) := Option.some.inj (hb.symm.trans h0)
      simp only [Obj.cells.injEq] at e
      obtain ⟨e1, rfl, _⟩ := e
      have e2 : cs = cs0 := by simpa using e1
      subst e2
      exact ⟨ds, k.blk, hl⟩
    · exact ⟨cs, hb.keep k.keep he, rfl⟩⟩
theorem Mk.sto {b : Nat} {T : TypeId} {ds : List Value} (h : Mk lo hi w0 w) (k : Sto w w' b T ds) (hb : lo ≤ b ∧ b < hi) : Mk lo hi w0 w' := h.mrk (Mk.of_sto k hb.1 hb.2) ⟨Nat.le_refl _, Nat.le_refl _⟩
theorem Mk.of_ext (h : Ext w w') : Mk lo hi w w' := ⟨h.mono fun _ hq => hq.1, fun _ _ cs _ _ hB => ⟨cs, hB.ext h, rfl⟩⟩
theorem Mk.trans (h : Mk lo hi w0 w) (k : Ext w w') : Mk lo hi w0 w' := h.mrk (Mk.of_ext k) ⟨Nat.le_refl _, Nat.le_refl _⟩
theorem Mk.mono (h : Mk lo hi w w') (h1 : lo' ≤ lo) (h2 : hi ≤ hi') : Mk lo' hi' w w' := (Mk.refl lo' hi' w).mrk h ⟨h1, h2⟩
theorem Ext.mrk (h : Ext w0 w) (k : Mk lo hi w w') (hb : w0.heap.size ≤ lo) : Ext w0 w' := Keep.trans h (k.keep.mono fun q hq => ⟨Nat.lt_of_lt_of_le hq h.size, .inl (Nat.lt_of_lt_of_le hq hb)⟩)
theorem KX.mrk {b : Nat} (h : KX b w0 w) (k : Mk lo hi w w') (hb : w0.heap.size ≤ lo) : KX b w0 w' := Keep.trans h (k.keep.mono fun q hq => ⟨Nat.lt_of_lt_of_le hq.1 h.size, .inl (Nat.lt_of_lt_of_le hq.1 hb)⟩)
/-- One block was rewritten, in place. -/
theorem Mk.of_kx {g : Nat} {T : TypeId} {cs cs' : List Value} (h : KX g w w') (hB : Blk w g T cs) (hB' : Blk w' g T cs') (hl : cs'.length = cs.length) (h1 : lo ≤ g) (h2 : g < hi) : Mk lo hi w w' :=
  ⟨h.mono fun q hq => ⟨hq.1, by omega⟩, fun b T' ds _ _ hb => by
    by_cases he : b = g
    · subst he
      have e : Obj.cells ds.toArray T' (0, 0) = Obj.cells cs.toArray T (0, 0) := Option.some.inj (hb.symm.trans hB)
      simp only [Obj.cells.injEq] at e
      obtain ⟨e1, rfl, _⟩ := e
      have e2 : ds = cs := by simpa using e1
      subst e2
      exact ⟨cs', hB', hl⟩
    · exact ⟨ds, hb.keep h ⟨hb.lt, he⟩, rfl⟩⟩
end
section
variable {lo hi l r : Nat} {w w' : World} {a : Option Addr} {c : Nat}
theorem Blk.mrk {b : Nat} {T : TypeId} {cs : List Value} (h : Blk w b T cs) (k : Mk lo hi w w') (hb : b < lo ∨ hi ≤ b) : Blk w' b T cs := h.keep k.keep ⟨h.lt, hb⟩
theorem Ints.mrk {xs : List Int} (h : Ints l r w a c xs) (k : Mk lo hi w w') (hb : (r ≤ lo ∨ hi ≤ l) ∧ r ≤ w.heap.size) : Ints l r w' a c xs := h.keep k.keep fun b _ _ => ⟨by omega, by omega⟩
theorem Pairs.mrk {xs : List (Int × Int)} (h : Pairs l r w a c xs) (k : Mk lo hi w w') (hb : (r ≤ lo ∨ hi ≤ l) ∧ r ≤ w.heap.size) : Pairs l r w' a c xs := h.keep k.keep fun b _ _ => ⟨by omega, by omega⟩
theorem FInts.mrk {xs : List Int} (h : FInts l r w a c xs) (k : Mk lo hi w w') (hb : (r ≤ lo ∨ hi ≤ l) ∧ r ≤ w.heap.size) : FInts l r w' a c xs := FArr.keep h k.keep fun b _ _ => ⟨by omega, by omega⟩
theorem FPairs.mrk {xs : List (Int × Int)} (h : FPairs l r w a c xs) (k : Mk lo hi w w') (hb : (r ≤ lo ∨ hi ≤ l) ∧ r ≤ w.heap.size) : FPairs l r w' a c xs := FArr.keep h k.keep fun b _ _ => ⟨by omega, by omega⟩
theorem Nest.mrk {α β : Type} {sz : Nat} {cells : Option Addr × Nat → β → List Value} {inner : β → List α} {R : Nat → Nat → World → Option Addr → Nat → List α → Prop} [Car R] {xs : List β} (h : Nest sz cells inner R l r w a c xs) (k : Mk lo hi w w') (hb : (r ≤ lo ∨ hi ≤ l) ∧ r ≤ w.heap.size) : Nest sz cells inner R l r w' a c xs := h.keep k.keep fun b _ _ => ⟨by omega, by omega⟩
theorem FNest.mrk {α β : Type} {sz : Nat} {cells : Option Addr × Nat → β → List Value} {inner : β → List α} {R : Nat → Nat → World → Option Addr → Nat → List α → Prop} [Car R] {xs : List β} (h : FNest sz cells inner R l r w a c xs) (k : Mk lo hi w w') (hb : (r ≤ lo ∨ hi ≤ l) ∧ r ≤ w.heap.size) : FNest sz cells inner R l r w' a c xs := by
  obtain ⟨vs, b', hl, ha, h1, hF, h2, h3⟩ := h
  exact ⟨vs, b', hl, ha, h1, hF.keep k.keep fun q _ _ => ⟨by omega, by omega⟩, h2, fun i hi h' => Car.keep (h3 i hi h') k.keep fun q _ _ => ⟨by omega, by omega⟩⟩
theorem Own.mrk {E : TypeId} {sz n : Nat} {cs : List Value} (h : Own l w E sz a n c cs) (k : Mk lo hi w w') (hb : hi ≤ l) : Own l w' E sz a n c cs := h.keep k.keep fun q hq => ⟨(h.block q hq).2, .inr (by have := (h.block q hq).1; omega)⟩
theorem ORows.mrk {α : Type} {f : α → List Value} {sz b : Nat} {E : TypeId} {xss : List (List α)} (h : ORows f sz l r w E b xss) (k : Mk lo hi w w') (hb : (r ≤ lo ∨ hi ≤ l) ∧ r ≤ w.heap.size) : ORows f sz l r w' E b xss := h.keep k.keep fun b _ _ => ⟨by omega, by omega⟩
end

/-- A row of n elements of e cells that may be written. -/
def WRow (e lo hi : Nat) (w : World) (a : Option Addr) (n : Nat) : Prop := n = 0 ∨ ∃ g T cs, a = some ⟨g, 0, none⟩ ∧ lo ≤ g ∧ g < hi ∧ Blk w g T cs ∧ n * e ≤ cs.length
theorem WRow.mrk' {e lo hi l r n : Nat} {w w' : World} {a : Option Addr} (h : WRow e l r w a n) (k : Mk lo hi w w') : WRow e l r w' a n := by
  rcases h with h | ⟨g, T, cs, h1, h2, h3, h4, h5⟩
  · exact .inl h
  · obtain ⟨cs', hB, e⟩ := k.blk h4
    exact .inr ⟨g, T, cs', h1, h2, h3, hB, by omega⟩
theorem FArr.w {lo hi sz c : Nat} {w : World} {a : Option Addr} {css : List (List Value)} (h : FArr lo hi w sz a c css) : WRow sz lo hi w a css.length := by
  rcases h.own with h1 | ⟨b, T, ds, ha, h1, h2, hB⟩
  · exact .inl (by rw [h1]; rfl)
  · exact .inr ⟨b, T, _, ha, h1, h2, hB, by rw [List.length_append, flat_len h.len]; omega⟩
theorem FInts.w {lo hi c : Nat} {w : World} {a : Option Addr} {xs : List Int} (h : FInts lo hi w a c xs) : WRow 1 lo hi w a xs.length := by have := FArr.w h; simpa using this
theorem FPairs.w {lo hi c : Nat} {w : World} {a : Option Addr} {xs : List (Int × Int)} (h : FPairs lo hi w a c xs) : WRow 2 lo hi w a xs.length := by have := FArr.w h; simpa using this
/-- The cells of n elements of sz cells, whose cell at pos is a row that may be written. -/
def WRs (e sz pos lo hi : Nat) (w : World) (cs : List Value) (n : Nat) : Prop := ∀ i, i < n → ∃ a' n' c', cs[i * sz + pos]? = some (.slice a' n' c') ∧ n' ≤ 1048576 ∧ WRow e lo hi w a' n'
theorem WRs.mrk {e sz pos lo hi l r n : Nat} {w w' : World} {cs : List Value} (h : WRs e sz pos l r w cs n) (k : Mk lo hi w w') (_h : 0 ≤ lo) : WRs e sz pos l r w' cs n := fun i hi => by
  obtain ⟨a', n', c', h1, h2, h3⟩ := h i hi; exact ⟨a', n', c', h1, h2, h3.mrk' k⟩
theorem WRs.ext {e sz pos l r n : Nat} {w w' : World} {cs : List Value} (h : WRs e sz pos l r w cs n) (k : Ext w w') : WRs e sz pos l r w' cs n := h.mrk (Mk.of_ext (lo := 0) (hi := 0) k) (Nat.le_refl _)
theorem WRs.sto {e sz pos l r n : Nat} {w w' : World} {cs : List Value} {b : Nat} {T : TypeId} {ds : List Value} (h : WRs e sz pos l r w cs n) (k : Sto w w' b T ds) (_h : 0 ≤ b) : WRs e sz pos l r w' cs n := h.mrk (Mk.of_sto (lo := b) (hi := b + 1) k (Nat.le_refl _) (Nat.lt_succ_self _)) (Nat.zero_le _)
theorem WRs.set {e sz pos l r n : Nat} {w : World} {cs : List Value} {j : Nat} {v : Value} (h : WRs e sz pos l r w cs n) (hj : ∀ i, i < n → j ≠ i * sz + pos) : WRs e sz pos l r w (cs.set j v) n := fun i hi => by
  obtain ⟨a', n', c', h1, h2, h3⟩ := h i hi; exact ⟨a', n', c', by rw [List.getElem?_set_ne (hj i hi)]; exact h1, h2, h3⟩
/-- A block of such elements. -/
def WNest (e sz pos lo hi : Nat) (w : World) (a : Option Addr) (n : Nat) : Prop := n = 0 ∨ ∃ g T cs, a = some ⟨g, 0, none⟩ ∧ lo ≤ g ∧ g < hi ∧ Blk w g T cs ∧ n * sz ≤ cs.length ∧ WRs e sz pos (g + 1) hi w cs n
theorem FNest.w {α β : Type} {sz pos e lo hi c : Nat} {cells : Option Addr × Nat → β → List Value} {inner : β → List α} {R : Nat → Nat → World → Option Addr → Nat → List α → Prop} {w : World} {a : Option Addr} {xs : List β} (h : FNest sz cells inner R lo hi w a c xs) (hs : ∀ v x, (cells v x).length = sz)
    (hp : ∀ v x, (cells v x)[pos]? = some (.slice v.1 (inner x).length v.2)) (hw : ∀ {lo hi : Nat} {a : Option Addr} {c : Nat} {ys : List α}, R lo hi w a c ys → WRow e lo hi w a ys.length) (hm : ∀ x ∈ xs, (inner x).length ≤ 1048576) : WNest e sz pos lo hi w a xs.length := by
  obtain ⟨vs, b, hl, ha, h1, hF, h2, h3⟩ := h
  rcases hF.own with h4 | ⟨b', T, ds, ha', h5, h6, hB⟩
  · left
    have := congrArg List.length h4
    simp [hl] at this
    exact List.length_eq_zero_iff.2 this
  · right
    rw [ha] at ha'
    simp only [Option.some.injEq, Addr.mk.injEq] at ha'
    obtain rfl := ha'.1
    have hlr : ∀ r ∈ (vs.zip xs).map (fun p => cells p.1 p.2), r.length = sz := fun r hr => by obtain ⟨p, _, rfl⟩ := List.mem_map.1 hr; exact hs _ _
    refine ⟨b, T, _, ha, h1, h2, hB, by rw [List.length_append, flat_len hlr]; simp [hl], fun i hi => ?_⟩
    have hv : i < vs.length := by omega
    refine ⟨vs[i].1, (inner xs[i]).length, vs[i].2, ?_, hm _ (List.getElem_mem hi), hw (h3 i hi hv)⟩
    have hr : ((vs.zip xs).map fun p => cells p.1 p.2)[i]? = some (cells vs[i] xs[i]) := by
      have hz : i < (vs.zip xs).length := by simp; omega
      rw [List.getElem?_map, List.getElem?_eq_getElem hz, List.getElem_zip]
      rfl
    have hlt : pos < (cells vs[i] xs[i]).length := by
      have := hp vs[i] xs[i]
      rcases Nat.lt_or_ge pos (cells vs[i] xs[i]).length with h | h
      · exact h
      · rw [List.getElem?_eq_none h] at this; cases this
    have := flat_get hlr hr (hp vs[i] xs[i])
    rw [List.getElem?_append_left]
    · exact this
    · rcases Nat.lt_or_ge (i * sz + pos) ((vs.zip xs).map fun p => cells p.1 p.2).flatten.length with h | h
      · exact h
      · rw [List.getElem?_eq_none h] at this; cases this
/-- The numbers from k. -/
def nums (k : Int) (n : Nat) : List Int := (List.range n).map fun (i : Nat) => k + (i : Int)
theorem nums_len (k : Int) (n : Nat) : (nums k n).length = n := by simp [nums]
theorem nums_get {k : Int} {n i : Nat} (h : i < (nums k n).length) : (nums k n)[i] = k + (i : Int) := by simp [nums]
def mix (k : Int) (cs : List Value) (i : Nat) : List Value := (nums k i).map VI ++ cs.drop i
theorem mix_len {k : Int} {cs : List Value} {i : Nat} (h : i ≤ cs.length) : (mix k cs i).length = cs.length := by simp [mix, nums_len]; omega
theorem mix_zero (k : Int) (cs : List Value) : mix k cs 0 = cs := by simp [mix, nums]
theorem mix_succ {k : Int} {cs : List Value} {i : Nat} (h : i < cs.length) : (mix k cs i).set i (VI (k + (i : Int))) = mix k cs (i + 1) := by
  have e : nums k (i + 1) = nums k i ++ [k + (i : Int)] := by simp [nums, List.range_succ]
  have hl : ((nums k i).map VI).length = i := by simp [nums_len]
  unfold mix
  rw [e, List.map_append, List.set_append_right _ _ (by omega), hl, Nat.sub_self, List.drop_eq_getElem_cons h, List.set_cons_zero, List.append_assoc]
  rfl
theorem mix_put {k x : Int} {cs : List Value} {i j g : Nat} {T : TypeId} {w : World} (hj : j = i) (h : i < cs.length) (hx : x = k + (i : Int)) (hB : Blk w g T ((mix k cs i).set j (VI x))) : Blk w g T (mix k cs (i + 1)) := by
  subst hj hx; rw [← mix_succ h]; exact hB
theorem Own.blk {lo : Nat} {w : World} {E : TypeId} {a : Option Addr} {n c : Nat} {cs : List Value} (h : Own lo w E 1 a n c cs) (hn : 0 < n) : ∃ g rest, a = some ⟨g, 0, none⟩ ∧ lo ≤ g ∧ Blk w g E (cs ++ rest) ∧ n ≤ c ∧ c ≤ maxLen ∧ (cs ++ rest).length = c ∧ cs.length = n := by
  obtain ⟨hl, h⟩ := h
  rcases h with ⟨hv, h0⟩ | ⟨g, cap, cur, hv, hb, hg, h1, h2, h3, h4⟩
  · omega
  · cases hv
    rw [Nat.mul_one] at h4 hl h3
    have e : cs ++ cur.toList.drop n = cur.toList := by rw [← h4]; exact List.take_append_drop _ _
    exact ⟨g, cur.toList.drop n, rfl, hb, by rw [e]; simpa [Blk] using hg, h1, h2, by rw [e]; simpa using h3, hl⟩
theorem Own.of_blk {lo : Nat} {w : World} {E : TypeId} {g n c : Nat} {cs rest : List Value} (hB : Blk w g E (cs ++ rest)) (h1 : lo ≤ g) (h2 : n ≤ c) (h3 : c ≤ maxLen) (h4 : (cs ++ rest).length = c) (h5 : cs.length = n) : Own lo w E 1 (some ⟨g, 0, none⟩) n c cs :=
  ⟨by omega, .inr ⟨g, c, (cs ++ rest).toArray, rfl, h1, hB, h2, h3, by rw [List.size_toArray]; omega, by rw [Nat.mul_one, ← h5]; exact List.take_left⟩⟩
end Go.Proofs.YtdpdjbfjjlpfgaaGreatDoor
