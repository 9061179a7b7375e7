/- What lies below a bound is kept; conversions between int and uint; copy. No condition. -/
import Derived.Test.YtdpdjbfjjlpfgaaGreatDoorAuto
import Derived.Test.YtdpdjbfjjlpfgaaGreatDoorMark0
namespace Go.Proofs.YtdpdjbfjjlpfgaaGreatDoor
open Go Go.RowKit

/-- All blocks below b are kept. -/
def Lo (b : Nat) (w w' : World) : Prop := b ≤ w.heap.size ∧ Keep (fun k => k < b) w w'
section
variable {b b' l r p q : Nat} {w0 w w' : World} {a : Option Addr} {c : Nat}
theorem Lo.size (h : Lo b w w') : w.heap.size ≤ w'.heap.size := h.2.size
theorem Lo.refl (h : b ≤ w.heap.size) : Lo b w w := ⟨h, Keep.refl _ _⟩
theorem Lo.trans (h : Lo b w0 w) (k : Ext w w') : Lo b w0 w' := ⟨h.1, Keep.trans h.2 (k.mono fun i hi => by have := h.1; have := h.size; have : i < b := hi; show i < w.heap.size; omega)⟩
theorem Lo.of_ext (h : Ext w w') (hb : b ≤ w.heap.size) : Lo b w w' := ⟨hb, h.mono fun i hi => Nat.lt_of_lt_of_le hi hb⟩
theorem Lo.sto {g : Nat} {T : TypeId} {ds : List Value} (h : Lo b w0 w) (k : Sto w w' g T ds) (hb : b ≤ g) : Lo b w0 w' := ⟨h.1, Keep.trans h.2 (k.keep.mono fun i hi => by show i ≠ g; have : i < b := hi; omega)⟩
theorem Lo.kx {g : Nat} (h : Lo b w0 w) (k : KX g w w') (hb : b ≤ g) : Lo b w0 w' := ⟨h.1, Keep.trans h.2 (k.mono fun i hi => by have := h.1; have := h.size; have : i < b := hi; exact ⟨by omega, by omega⟩)⟩
theorem Lo.app (h : Lo b w0 w) (k : Apd w w' a) (hb : ∀ q, a = some q → b ≤ q.block) : Lo b w0 w' := ⟨h.1, Keep.trans h.2 (k.mono fun i hi => by have := h.1; have := h.size; have : i < b := hi; exact ⟨by omega, fun q hq => by have := hb q hq; omega⟩)⟩
theorem Lo.lo (h : Lo b w0 w) (k : Lo b' w w') (hb : b ≤ b') : Lo b w0 w' := ⟨h.1, Keep.trans h.2 (k.2.mono fun i hi => Nat.lt_of_lt_of_le hi hb)⟩
theorem Lo.mrk (h : Lo b w0 w) (k : Mk l r w w') (hb : b ≤ l) : Lo b w0 w' := ⟨h.1, Keep.trans h.2 (k.keep.mono fun i hi => by have := h.1; have := h.size; have : i < b := hi; exact ⟨by omega, by omega⟩)⟩
theorem Lo.of_apd (k : Apd w w' a) (hb : ∀ q, a = some q → b ≤ q.block) (h : b ≤ w.heap.size) : Lo b w w' := (Lo.refl h).app k hb
theorem Lo.of_sto {g : Nat} {T : TypeId} {ds : List Value} (k : Sto w w' g T ds) (hb : b ≤ g) (h : b ≤ w.heap.size) : Lo b w w' := (Lo.refl h).sto k hb
theorem Lo.of_kx {g : Nat} (k : KX g w w') (hb : b ≤ g) (h : b ≤ w.heap.size) : Lo b w w' := (Lo.refl h).kx k hb
theorem Lo.mono (h : Lo b w w') (hb : b' ≤ b) : Lo b' w w' := ⟨Nat.le_trans hb h.1, h.2.mono fun i hi => Nat.lt_of_lt_of_le hi hb⟩
theorem Lo.ext (h : Lo w.heap.size w w') : Ext w w' := h.2
theorem Lo.ext' (h : Lo b w w') (hb : w.heap.size ≤ b) : Ext w w' := h.2.mono fun i hi => Nat.lt_of_lt_of_le hi hb
theorem Lo.rg (h : Lo b w0 w) (k : Rg l r p q w w') (hb : b ≤ l) : Lo b w0 w' := ⟨h.1, Keep.trans h.2 (k.mono fun i hi => by have := h.1; have := h.size; have : i < b := hi; exact ⟨by omega, by omega⟩)⟩
theorem Rg.lo (h : Rg l r p q w0 w) (k : Lo b w w') (hb : l ≤ b ∧ w0.heap.size ≤ r ∧ (q ≤ p ∨ q ≤ b)) : Rg l r p q w0 w' := Keep.trans h (k.2.mono fun i hi => by have := hi.1; have := hi.2; show i < b; omega)
theorem OwnQ.lo {E : TypeId} {sz n : Nat} {cs : List Value} (h : OwnQ l r w E sz a n c cs) (k : Lo b w w') (hb : r ≤ b) : OwnQ l r w' E sz a n c cs := h.keep k.2 fun q hq => Nat.lt_of_lt_of_le (h.block' q hq).2 hb
theorem Ext.lo (h : Ext w0 w) (k : Lo b w w') (hb : w0.heap.size ≤ b) : Ext w0 w' := Keep.trans h (k.2.mono fun i hi => Nat.lt_of_lt_of_le hi hb)
theorem KX.lo {g : Nat} (h : KX g w0 w) (k : Lo b w w') (hb : w0.heap.size ≤ b) : KX g w0 w' := Keep.trans h (k.2.mono fun i hi => Nat.lt_of_lt_of_le hi.1 hb)
theorem Blk.lo {g : Nat} {T : TypeId} {cs : List Value} (h : Blk w g T cs) (k : Lo b w w') (hb : g < b) : Blk w' g T cs := h.keep k.2 hb
theorem SAt.lo {cs : List Value} (h : SAt l r w a cs) (k : Lo b w w') (hb : r ≤ b) : SAt l r w' a cs := h.keep k.2 fun i _ h2 => Nat.lt_of_lt_of_le h2 hb
theorem Ints.lo {xs : List Int} (h : Ints l r w a c xs) (k : Lo b w w') (hb : r ≤ b) : Ints l r w' a c xs := h.keep k.2 fun i _ h2 => Nat.lt_of_lt_of_le h2 hb
theorem Pairs.lo {xs : List (Int × Int)} (h : Pairs l r w a c xs) (k : Lo b w w') (hb : r ≤ b) : Pairs l r w' a c xs := h.keep k.2 fun i _ h2 => Nat.lt_of_lt_of_le h2 hb
theorem Nest.lo {α β : Type} {sz : Nat} {cells : Option Addr × Nat → β → List Value} {inner : β → List α} {R : Nat → Nat → World → Option Addr → Nat → List α → Prop} [Car R] {xs : List β} (h : Nest sz cells inner R l r w a c xs) (k : Lo b w w') (hb : r ≤ b) : Nest sz cells inner R l r w' a c xs := h.keep k.2 fun i _ h2 => Nat.lt_of_lt_of_le h2 hb
theorem FInts.lo {xs : List Int} (h : FInts l r w a c xs) (k : Lo b w w') (hb : r ≤ b) : FInts l r w' a c xs := FArr.keep h k.2 fun i _ h2 => Nat.lt_of_lt_of_le h2 hb
theorem FPairs.lo {xs : List (Int × Int)} (h : FPairs l r w a c xs) (k : Lo b w w') (hb : r ≤ b) : FPairs l r w' a c xs := FArr.keep h k.2 fun i _ h2 => Nat.lt_of_lt_of_le h2 hb
theorem FNest.lo {α β : Type} {sz : Nat} {cells : Option Addr × Nat → β → List Value} {inner : β → List α} {R : Nat → Nat → World → Option Addr → Nat → List α → Prop} [Car R] {xs : List β} (h : FNest sz cells inner R l r w a c xs) (k : Lo b w w') (hb : r ≤ b) : FNest sz cells inner R l r w' a c xs := by
  obtain ⟨vs, b', hl, ha, h1, hF, h2, h3⟩ := h
  exact ⟨vs, b', hl, ha, h1, hF.keep k.2 fun q _ _ => (by show q < b; omega), h2, fun i hi h' => Car.keep (h3 i hi h') k.2 fun q _ _ => (by show q < b; omega)⟩
theorem ORows.lo {α : Type} {f : α → List Value} {sz g : Nat} {E : TypeId} {xss : List (List α)} (h : ORows f sz l r w E g xss) (k : Lo b w w') (hb : r ≤ b) : ORows f sz l r w' E g xss := h.keep k.2 fun q _ h2 => Nat.lt_of_lt_of_le h2 hb
theorem OwnH.lo {E : TypeId} {sz n : Nat} {cs : List Value} (h : OwnH l r p q w E sz a n c cs) (k : Lo b w w') (hb : r ≤ b) : OwnH l r p q w' E sz a n c cs := h.keep k.2 fun x _ h2 => Nat.lt_of_lt_of_le h2 hb
theorem OwnH.mrk {x y : Nat} {E : TypeId} {sz n : Nat} {cs : List Value} (h : OwnH l r p q w E sz a n c cs) (k : Mk x y w w') (hb : (y ≤ l ∨ r ≤ x) ∧ r ≤ w.heap.size) : OwnH l r p q w' E sz a n c cs := h.keep k.keep fun g _ _ => by omega
theorem OwnT.lo {E : TypeId} {sz n : Nat} {cs : List Value} (h : OwnT l r w E sz a n c cs) (k : Lo b w w') (hb : r ≤ b) : OwnT l r w' E sz a n c cs := ⟨h.1.keep k.2 fun q hq => Nat.lt_of_lt_of_le (h.2 q hq) hb, h.2⟩
end

theorem Ints.cellJ {lo hi : Nat} {w : World} {a : Option Addr} {c : Nat} {xs : List Int} (h : Ints lo hi w a c xs) {i j : Nat} (hi' : i < xs.length) (hj : j = i) : w.cell? ⟨blkOf a, offOf a + j * 1, none⟩ = some (VI xs[i]) := by subst hj; exact h.cell hi'
theorem Pairs.cellsJ {lo hi : Nat} {w : World} {a : Option Addr} {c : Nat} {xs : List (Int × Int)} (h : Pairs lo hi w a c xs) {i j : Nat} (hi' : i < xs.length) (hj : j = i) : ∀ k (hk : k < [VI xs[i].1, VI xs[i].2].length), w.cell? ⟨blkOf a, offOf a + j * 2 + k, none⟩ = some [VI xs[i].1, VI xs[i].2][k] := by subst hj; exact h.cells hi'
theorem KX.cellB {b g i : Nat} {w w' : World} {v : Value} (h : KX b w w') (hc : w.cell? ⟨g, i, none⟩ = some v) (hb : g ≠ b) : w'.cell? ⟨g, i, none⟩ = some v := (Keep.cell h (p := ⟨g, i, none⟩) ⟨World.block_lt_of_cell? w _ hc, hb⟩).trans hc
theorem W_drawK {P : Program} {n : Nat} {Q : Post} {L : Env} {w : World} {ops : Array Oper} {id : Nat} (b : Nat) (X : World → Prop) (plan : List (Nat × Bool)) (hm : P.follows .mixedOrders = true) (hs : Region.noSelect ops = true) (hl : plan.length = ops.size)
    (hp : planB ops plan (Array.replicate ops.size false) = true) (hX : ∀ wd, Ext w wd → X wd) (h : ∀ wd, Ext w wd → wd.heap.size = w.heap.size → PW P n ops Q (fun w' => KX b wd w' ∧ X w') plan L wd) : W P n (.region id ops true) Q L w :=
  W_draw (fun w' => KX b (drewW w) w' ∧ X w') plan hm hs hl hp ⟨KX.refl _ _, hX _ (Ext.drew w)⟩ (h _ (Ext.drew w) rfl)
section
variable {P : Program} {L : Env} {ty T T' E : TypeId} {w : World} {x y : Operand} {m k : Int}
theorem ev_gtr_u (hx : ev L x = some (.int .u64 m)) (hy : ev L y = some (.int .u64 k)) : EvR P L (.binOp .gtr T x y T') ty w (VB (decide (k < m))) := by
  intro ρ hρ d p f g
  simp [execOp, hρ x _ hx, hρ y _ hy, eqGuard, binOp, Op.intCmp]
theorem ev_conv {q r : IntKind} (hs : (P.underlying T).isSome = true) (hd : P.underlying T' = some (.int r)) (hk : P.intKind T' = r) (hx : ev L x = some (.int q m)) (hw : r.wrap m = k) : EvR P L (.convert T T' x) ty w (.int r k) := by
  intro ρ hρ d p f g
  have hr := run_convert_int (P := P) w T T' q m hs (by rw [hk]; exact hd)
  rw [hk, hw] at hr
  simp [execOp, hρ x _ hx, hr]
theorem wrap_u {m : Int} (h : 0 ≤ m ∧ m ≤ 9223372036854775807) : IntKind.u64.wrap m = m := by rw [IntKind.wrap_u64]; omega
theorem wrap_u0 (n : Nat) (h : n ≤ 1048576) : IntKind.u64.wrap (n : Int) = ((n : Nat) : Int) := wrap_u (by omega)
theorem wrap_i0 (n : Nat) (h : n ≤ 1099511627776) : IntKind.i64.wrap (n : Int) = ((n : Nat) : Int) := wrap_in (by omega)
theorem ev_copy {b o n c m c2 lo hi : Nat} {a2 : Option Addr} {cs ds : List Value} {z : Value} {by' : Nat} (ht : P.underlying T = some (.slice E)) (he : elem? P E = some (z, 1, by')) (hx : ev L x = some (.slice (some ⟨b, o, none⟩) n c)) (hy : ev L y = some (.slice a2 m c2))
    (hB : Blk w b T' cs) (hs : SAt lo hi w a2 ds) (hl : ds.length = min m n) (ho : o + ds.length ≤ cs.length) (h1 : ∀ v ∈ ds, v.oneCell' = true) (hm : ds.length ≤ 1048576) :
    EvM P L (.call ⟨.builtin .copy, #[x, y], #[T, T]⟩) ty w (fun r w' => r = VI (ds.length : Int) ∧ Sto w w' b T' (cs.take o ++ ds ++ cs.drop (o + ds.length))) := by
  intro ρ hρ d p f g
  obtain ⟨i, hi, hz, hsi, hby⟩ := elem_parts he
  have hs1 : (P.info? E).map (·.size) = some 1 := by rw [hi]; simp [hsi]
  simp only [execOp, resolve, invoke, builtin, hρ x _ hx, hρ y _ hy, Sem.run_bind, Sem.run_pure, Result.andThen_ok, List.map_toArray, List.map_cons, List.map_nil]
  by_cases h0 : ds = []
  · subst h0
    rw [run_copy_none (P := P) w T T ty E _ _ _ _ _ _ ht hs1 (by simpa using hl.symm)]
    simp only [Result.andThen_ok, OpOk]
    refine ⟨rfl, ⟨Keep.refl _ _, rfl, by simpa using hB, cs, hB, by simp⟩⟩
  · obtain ⟨b2, off2, rfl, _, _, hc⟩ := hs.at (List.length_pos_iff.2 h0)
    have hsrc : ∀ j v, ds[j]? = some v → w.cell? (Addr.add ⟨b2, off2, none⟩ j) = some v := fun j v hj => by
      have hjl : j < ds.length := by
        rcases Nat.lt_or_ge j ds.length with h | h
        · exact h
        · rw [List.getElem?_eq_none h] at hj; cases hj
      rw [Addr.add_lit, hc j hjl]
      rw [List.getElem?_eq_getElem hjl] at hj
      exact hj
    rw [run_copy_cells (P := P) w T T ty E b o n c ⟨b2, off2, none⟩ m c2 ds ht hs1 hl hsrc (fun j hj => by rw [hB.cell (List.getElem?_eq_getElem (show o + j < cs.length by omega))]; rfl) (fun j hj => hB.frozen _) h1]
    simp only [Result.andThen_ok, OpOk]
    refine ⟨?_, setCells_sto ds o hB ho⟩
    rfl
theorem ev_slice_at {b o n c sz : Nat} (ht : P.underlying T = some (.slice E)) (hs : size? P E = some sz) (hx : ev L x = some (.slice (some ⟨b, o, none⟩) n c)) (hy : ev L y = some (VI k)) (h0 : 0 ≤ k) (h1 : k ≤ n) (hc : n ≤ c) (hk : k < c) :
    EvR P L (.slice T x (some y) none none) ty w (.slice (some ⟨b, o + k.toNat * sz, none⟩) (n - k.toNat) (c - k.toNat)) := by
  have := ev_slice_lo (w := w) (ty := ty) ht hs hx hy h0 h1 hc
  rw [if_neg (by omega)] at this
  simpa [Addr.add_lit] using this
end
end Go.Proofs.YtdpdjbfjjlpfgaaGreatDoor
