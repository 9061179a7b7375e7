/- A region that draws its order, in which more than one operation that acts may come up, and whose last acts write what was read: up to act z a condition holds, a weaker one holds throughout. No condition. -/
import Derived.Test.YtdpdjbfjjlpfgaaGreatDoorDrawT
namespace Go.Proofs.YtdpdjbfjjlpfgaaGreatDoor
open Go Go.RowKit

section
variable {P : Program} {ops : Array Oper} {Q : Exit → Act → World → Prop} {md : Region.Mode} {S S' U U' : World → Prop} {z : Nat}
def wpAnyY (P : Program) (md : Region.Mode) (ops : Array Oper) (Q : Exit → Act → World → Prop) (S U : World → Prop) (z : Nat) : Nat → Array Bool → Act → World → Prop
  | 0, listed, a, w => Region.ready md ops listed = [] ∧ Q .normal a w
  | fuel + 1, listed, a, w =>
    (Region.ready md ops listed = [] → Q .normal a w) ∧
    ∀ i ∈ Region.ready md ops listed, wpOp P ops Q i (fun a' w' => (((listed.setIfInBounds i true).getD z true = false → S w') ∧ U w') ∧ wpAnyY P md ops Q S U z fuel (listed.setIfInBounds i true) a' w') a w
theorem wpAny_of_Y : ∀ (fuel : Nat) (listed : Array Bool) (a : Act) (w : World), wpAnyY P md ops Q S U z fuel listed a w → wpAny P md ops Q fuel listed a w
  | 0, _, _, _, h => h
  | fuel + 1, _, _, _, h => ⟨h.1, fun i hi => wpOp_mono (fun a' w' h' => wpAny_of_Y fuel _ a' w' h'.2) (h.2 i hi)⟩
theorem wpAnyY_mono (hS : ∀ x, S' x → S x) (hU : ∀ x, U' x → U x) : ∀ (fuel : Nat) (listed : Array Bool) (a : Act) (w : World), wpAnyY P md ops Q S' U' z fuel listed a w → wpAnyY P md ops Q S U z fuel listed a w
  | 0, _, _, _, h => h
  | fuel + 1, _, _, _, h => ⟨h.1, fun i hi => wpOp_mono (fun a' w' h' => ⟨⟨fun e => hS _ (h'.1.1 e), hU _ h'.1.2⟩, wpAnyY_mono hS hU fuel _ a' w' h'.2⟩) (h.2 i hi)⟩
theorem Y_listed : ∀ (fuel : Nat) (listed : Array Bool) (a : Act) (w : World), listed.getD z true = true → wpAnyY P md ops Q S' U z fuel listed a w → wpAnyY P md ops Q S U z fuel listed a w
  | 0, _, _, _, _, h => h
  | fuel + 1, listed, a, w, hz, h => ⟨h.1, fun i hi => wpOp_mono (fun a' w' h' => by
      have hz' : (listed.setIfInBounds i true).getD z true = true := by
        by_cases e : i = z
        · subst e
          by_cases hl : i < listed.size
          · simp [hl]
          · simp [Array.getElem?_eq_none (Nat.le_of_not_lt hl)]
        · rw [getD_set_ne true e]; exact hz
      exact ⟨⟨fun e => (by rw [hz'] at e; cases e), h'.1.2⟩, Y_listed fuel _ a' w' hz' h'.2⟩) (h.2 i hi)⟩
theorem wpAnyY_firstZ {i : Nat} {oi : Oper} {v : Value} (hi : ops[i]? = some oi) (hsel : ∀ (j : Nat) (o : Oper) cs b, ops[j]? = some o → o.op ≠ .select cs b)
    (hQ : ∀ c a w, Q (.panic c) (a.put oi.dst v) w → Q (.panic c) a w) (hz : ∃ oz, ops[z]? = some oz ∧ ∃ e ∈ oz.after, Region.binds md e = true ∧ e.on = i) :
    ∀ (fuel : Nat) (listed : Array Bool) (a : Act) (w : World), listed.getD z true = false →
      (∀ j oj, ops[j]? = some oj → j ≠ i → listed.getD j true = false → (∀ e ∈ oj.after, Region.binds md e = true → e.on ≠ i) → oi.apart ops oj = true) →
      i ∈ Region.ready md ops listed → YieldsIf P ops S oi v a → S w → U w →
      wpAnyY P md ops Q S U z fuel (listed.setIfInBounds i true) (a.put oi.dst v) w → wpAnyY P md ops Q S U z (fuel + 1) listed a w := by
  intro fuel
  induction fuel with
  | zero =>
    intro listed a w _ _ hr hy hS hU H
    refine ⟨fun h => (by rw [h] at hr; cases hr), fun j hj => ?_⟩
    by_cases hji : j = i
    · subst hji; exact hy.wpOp hi hS ⟨⟨fun _ => hS, hU⟩, H⟩
    · have := ready_mono hj hji
      rw [H.1] at this
      cases this
  | succ fuel ih =>
    intro listed a w hzl hfree hr hy hS hU H
    refine ⟨fun h => (by rw [h] at hr; cases hr), fun j hj => ?_⟩
    by_cases hji : j = i
    · subst hji; exact hy.wpOp hi hS ⟨⟨fun _ => hS, hU⟩, H⟩
    · have h1 := H.2 j (ready_mono hj hji)
      obtain ⟨hjun, oj, hoj, hall⟩ := mem_ready.1 hj
      have hnot : ∀ e ∈ oj.after, Region.binds md e = true → e.on ≠ i := fun e he hb heq => by
        have h1 := hall e he hb
        have h0 := (mem_ready.1 hr).1
        rw [heq] at h1
        rcases Nat.lt_or_ge i listed.size with h' | h'
        · simp [h'] at h0 h1; rw [h0] at h1; cases h1
        · simp [Array.getElem?_eq_none h'] at h1
      obtain ⟨oz, hoz, ez, hez, hbz, honz⟩ := hz
      have hjz : j ≠ z := fun e => by
        subst e
        rw [hoj] at hoz
        cases hoz
        exact hnot ez hez hbz honz
      have hiz : i ≠ z := fun e => by
        subst e
        obtain ⟨h0, o', ho', hall'⟩ := mem_ready.1 hr
        rw [hoz] at ho'
        cases ho'
        have h1 := hall' ez hez hbz
        rw [honz] at h1
        rcases Nat.lt_or_ge i listed.size with h' | h'
        · simp [h'] at h0 h1; rw [h0] at h1; cases h1
        · simp [Array.getElem?_eq_none h'] at h1
      have hzl' : (listed.setIfInBounds j true).getD z true = false := by rw [getD_set_ne true hjz]; exact hzl
      have hzl2 : ((listed.setIfInBounds i true).setIfInBounds j true).getD z true = false := by rw [getD_set_ne true hjz, getD_set_ne true hiz]; exact hzl
      have h2 := wpOp_putIf hoj (hfree j oj hoj hji hjun hnot) (fun cs b => hsel i oi cs b hi) (fun cs b => hsel j oj cs b hoj) hQ hy h1
      have hfree' : ∀ k ok, ops[k]? = some ok → k ≠ i → (listed.setIfInBounds j true).getD k true = false →
          (∀ e ∈ ok.after, Region.binds md e = true → e.on ≠ i) → oi.apart ops ok = true := fun k ok hk hki hun hno => by
        refine hfree k ok hk hki ?_ hno
        by_cases hjk : j = k
        · subst hjk; exact hjun
        · rw [getD_set_ne true hjk] at hun; exact hun
      refine wpOp_mono (fun a' w' h3 => ⟨⟨fun _ => h3.2.1.1 hzl2, h3.2.1.2⟩, ih (listed.setIfInBounds j true) a' w' hzl' hfree' (ready_mono hr (Ne.symm hji)) h3.1 (h3.2.1.1 hzl2) h3.2.1.2 ?_⟩) h2
      rw [Array.setIfInBounds_comm _ _ hji]
      exact h3.2.2
theorem wpAnyY_firstU {i : Nat} {oi : Oper} {v : Value} (hi : ops[i]? = some oi) (hsel : ∀ (j : Nat) (o : Oper) cs b, ops[j]? = some o → o.op ≠ .select cs b)
    (hQ : ∀ c a w, Q (.panic c) (a.put oi.dst v) w → Q (.panic c) a w) (hiz : i ≠ z) :
    ∀ (fuel : Nat) (listed : Array Bool) (a : Act) (w : World),
      (∀ j oj, ops[j]? = some oj → j ≠ i → listed.getD j true = false → (∀ e ∈ oj.after, Region.binds md e = true → e.on ≠ i) → oi.apart ops oj = true) →
      i ∈ Region.ready md ops listed → YieldsIf P ops U oi v a → (listed.getD z true = false → S w) → U w →
      wpAnyY P md ops Q S U z fuel (listed.setIfInBounds i true) (a.put oi.dst v) w → wpAnyY P md ops Q S U z (fuel + 1) listed a w := by
  intro fuel
  induction fuel with
  | zero =>
    intro listed a w _ hr hy hS hU H
    refine ⟨fun h => (by rw [h] at hr; cases hr), fun j hj => ?_⟩
    by_cases hji : j = i
    · subst hji; exact hy.wpOp hi hU ⟨⟨fun e => hS (by rw [getD_set_ne true hiz] at e; exact e), hU⟩, H⟩
    · have := ready_mono hj hji
      rw [H.1] at this
      cases this
  | succ fuel ih =>
    intro listed a w hfree hr hy hS hU H
    refine ⟨fun h => (by rw [h] at hr; cases hr), fun j hj => ?_⟩
    by_cases hji : j = i
    · subst hji; exact hy.wpOp hi hU ⟨⟨fun e => hS (by rw [getD_set_ne true hiz] at e; exact e), hU⟩, H⟩
    · have h1 := H.2 j (ready_mono hj hji)
      obtain ⟨hjun, oj, hoj, hall⟩ := mem_ready.1 hj
      have hnot : ∀ e ∈ oj.after, Region.binds md e = true → e.on ≠ i := fun e he hb heq => by
        have h1 := hall e he hb
        have h0 := (mem_ready.1 hr).1
        rw [heq] at h1
        rcases Nat.lt_or_ge i listed.size with h' | h'
        · simp [h'] at h0 h1; rw [h0] at h1; cases h1
        · simp [Array.getElem?_eq_none h'] at h1
      have h2 := wpOp_putIf hoj (hfree j oj hoj hji hjun hnot) (fun cs b => hsel i oi cs b hi) (fun cs b => hsel j oj cs b hoj) hQ hy h1
      have hfree' : ∀ k ok, ops[k]? = some ok → k ≠ i → (listed.setIfInBounds j true).getD k true = false →
          (∀ e ∈ ok.after, Region.binds md e = true → e.on ≠ i) → oi.apart ops ok = true := fun k ok hk hki hun hno => by
        refine hfree k ok hk hki ?_ hno
        by_cases hjk : j = k
        · subst hjk; exact hjun
        · rw [getD_set_ne true hjk] at hun; exact hun
      have hcond : ∀ w', (((listed.setIfInBounds i true).setIfInBounds j true).getD z true = false → S w') → (listed.setIfInBounds j true).getD z true = false → S w' := fun w' hx e => hx (by
        rw [Array.setIfInBounds_comm _ _ (Ne.symm hji), getD_set_ne true hiz]; exact e)
      refine wpOp_mono (fun a' w' h3 => ⟨⟨hcond w' h3.2.1.1, h3.2.1.2⟩, ih (listed.setIfInBounds j true) a' w' hfree' (ready_mono hr (Ne.symm hji)) h3.1 (hcond w' h3.2.1.1) h3.2.1.2 ?_⟩) h2
      rw [Array.setIfInBounds_comm _ _ hji]
      exact h3.2.2
end
/-- The orders: q: it only reads, and z waits for it; h: it only reads; a, b, c: one, two or three that act may come up; z: act z. -/
inductive Ty where
  | done
  | q (i : Nat) (t : Ty)
  | h (i : Nat) (t : Ty)
  | z (i : Nat) (t : Ty)
  | a (i : Nat) (t : Ty)
  | b (i : Nat) (t : Ty) (j : Nat) (u : Ty)
  | c (i : Nat) (t : Ty) (j : Nat) (u : Ty) (k : Nat) (v : Ty)
def Ty.deep : Ty → Nat → Bool
  | .done, 0 => true
  | .q _ t, n + 1 => t.deep n
  | .h _ t, n + 1 => t.deep n
  | .z _ t, n + 1 => t.deep n
  | .a _ t, n + 1 => t.deep n
  | .b _ t _ u, n + 1 => t.deep n && u.deep n
  | .c _ t _ u _ v, n + 1 => t.deep n && (u.deep n && v.deep n)
  | _, _ => false
def planY (ops : Array Oper) (z : Nat) : Ty → Array Bool → Bool
  | .done, listed => (Region.ready .any ops listed).isEmpty
  | .q i t, listed => !(listed.getD z true) && ((Region.ready .any ops listed).contains i && (Region.free .any ops listed i && (waits ops z i && planY ops z t (listed.setIfInBounds i true))))
  | .h i t, listed => !(Nat.beq i z) && ((Region.ready .any ops listed).contains i && (Region.free .any ops listed i && planY ops z t (listed.setIfInBounds i true)))
  | .z i t, listed => Nat.beq i z && ((Region.ready .any ops listed == [i]) && planY ops z t (listed.setIfInBounds i true))
  | .a i t, listed => (Region.ready .any ops listed == [i]) && planY ops z t (listed.setIfInBounds i true)
  | .b i t j u, listed => (Region.ready .any ops listed == [i, j]) && (planY ops z t (listed.setIfInBounds i true) && planY ops z u (listed.setIfInBounds j true))
  | .c i t j u k v, listed => (Region.ready .any ops listed == [i, j, k]) && (planY ops z t (listed.setIfInBounds i true) && (planY ops z u (listed.setIfInBounds j true) && planY ops z v (listed.setIfInBounds k true)))
abbrev WP := World → Prop
def PB (P : Program) (n : Nat) (ops : Array Oper) (i : Nat) (K : WP → WP → Env → World → Prop) (S U : WP) (L : Env) (w : World) : Prop :=
  ∃ o, ops[i]? = some o ∧ PWant ops L o = some true ∧ EvM P L o.op o.type w (fun v w' => ∃ S' U' : WP, (∀ x, S' x → S x) ∧ (∀ x, U' x → U x) ∧ S' w' ∧ U' w' ∧ (∀ d, o.dst = some d → Nat.blt d n = true ∧ K S' U' ((d, v) :: L) w') ∧ (o.dst = none → K S' U' L w'))
def PY (P : Program) (n : Nat) (ops : Array Oper) (Q : Post) : Ty → WP → WP → Env → World → Prop
  | .done, _, _, L, w => ∃ L', (∀ t v, lk L' t = some v → lk L t = some v) ∧ Q .normal L' w
  | .q i t, S, U, L, w => ∃ o d v, ops[i]? = some o ∧ o.dst = some d ∧ Nat.blt d n = true ∧ PWant ops L o = some true ∧ (∀ w', S w' → EvR P L o.op o.type w' v) ∧ PY P n ops Q t S U ((d, v) :: L) w
  | .h i t, S, U, L, w => ∃ o d v, ops[i]? = some o ∧ o.dst = some d ∧ Nat.blt d n = true ∧ PWant ops L o = some true ∧ (∀ w', U w' → EvR P L o.op o.type w' v) ∧ PY P n ops Q t S U ((d, v) :: L) w
  | .z i t, _, U, L, w => PB P n ops i (PY P n ops Q t) (fun _ => True) U L w
  | .a i t, S, U, L, w => PB P n ops i (PY P n ops Q t) S U L w
  | .b i t j u, S, U, L, w => PB P n ops i (PY P n ops Q t) S U L w ∧ PB P n ops j (PY P n ops Q u) S U L w
  | .c i t j u k v, S, U, L, w => PB P n ops i (PY P n ops Q t) S U L w ∧ PB P n ops j (PY P n ops Q u) S U L w ∧ PB P n ops k (PY P n ops Q v) S U L w
section
variable {P : Program} {n : Nat} {Q Q' : Post} {L : Env} {w : World} {ops : Array Oper} {S U : World → Prop} {z : Nat}
theorem PB.mono {i : Nat} {K K' : WP → WP → Env → World → Prop} (hK : ∀ S U L w, K S U L w → K' S U L w) (h : PB P n ops i K S U L w) : PB P n ops i K' S U L w := by
  obtain ⟨o, ho, hw, hv⟩ := h
  refine ⟨o, ho, hw, hv.mono fun v w' hn => ?_⟩
  obtain ⟨S', U', h1, h2, h3, h4, h5, h6⟩ := hn
  exact ⟨S', U', h1, h2, h3, h4, fun d hd => ⟨(h5 d hd).1, hK _ _ _ _ (h5 d hd).2⟩, fun hd => hK _ _ _ _ (h6 hd)⟩
theorem PY_mono (hQ : ∀ L w, Q .normal L w → Q' .normal L w) : ∀ (t : Ty) (S U : WP) (L : Env) (w : World), PY P n ops Q t S U L w → PY P n ops Q' t S U L w := by
  intro t
  induction t with
  | done => intro S U L w h; obtain ⟨L', h1, h2⟩ := h; exact ⟨L', h1, hQ _ _ h2⟩
  | q i t ih => intro S U L w h; obtain ⟨o, d, v, h1, h2, h3, h4, h5, h6⟩ := h; exact ⟨o, d, v, h1, h2, h3, h4, h5, ih _ _ _ _ h6⟩
  | h i t ih => intro S U L w h; obtain ⟨o, d, v, h1, h2, h3, h4, h5, h6⟩ := h; exact ⟨o, d, v, h1, h2, h3, h4, h5, ih _ _ _ _ h6⟩
  | z i t ih => intro S U L w h; exact PB.mono ih h
  | a i t ih => intro S U L w h; exact PB.mono ih h
  | b i t j u ih1 ih2 => intro S U L w h; exact ⟨PB.mono ih1 h.1, PB.mono ih2 h.2⟩
  | c i t j u k v ih1 ih2 ih3 => intro S U L w h; exact ⟨PB.mono ih1 h.1, PB.mono ih2 h.2.1, PB.mono ih3 h.2.2⟩
theorem actY_step {i fuel : Nat} {listed : Array Bool} {a : Act} {K : WP → WP → Env → World → Prop} (ha : Sat n a L) (h : PB P n ops i K S U L w)
    (ih : ∀ (S' U' : World → Prop) (L' : Env) (a' : Act) (w' : World), S' w' → U' w' → Sat n a' L' → K S' U' L' w' → wpAnyY P .any ops (up n Q) S' U' z fuel listed a' w') :
    wpOp P ops (up n Q) i (fun a' w' => ((listed.getD z true = false → S w') ∧ U w') ∧ wpAnyY P .any ops (up n Q) S U z fuel listed a' w') a w := by
  obtain ⟨o, ho, hw, hv⟩ := h
  unfold wpOp
  simp only [ho]
  rw [if_pos (wanted_of_PWant ha hw)]
  refine .inl (Oper.wp_of_ok (hv a.eval ha.ev o.dst o.pos o.after o.guard) ?_)
  intro v w' hn
  obtain ⟨S', U', hS1, hU1, hS2, hU2, h1, h2⟩ := hn
  refine ⟨⟨fun _ => hS1 _ hS2, hU1 _ hU2⟩, wpAnyY_mono hS1 hU1 _ _ _ _ ?_⟩
  cases hd : o.dst with
  | none => exact ih _ _ _ _ _ hS2 hU2 ha (h2 hd)
  | some d => exact ih _ _ _ _ _ hS2 hU2 (ha.put (h1 d hd).1 v) (h1 d hd).2
theorem wpAnyY_of_tree (hs : Region.noSelect ops = true) : ∀ (t : Ty) (fuel : Nat) (listed : Array Bool) (S U : World → Prop) (L : Env) (a : Act) (w : World), t.deep fuel = true → planY ops z t listed = true → S w → U w → Sat n a L →
      PY P n ops Q t S U L w → wpAnyY P .any ops (up n Q) S U z fuel listed a w := by
  intro t
  induction t with
  | done =>
    intro fuel listed S U L a w hf hp _ _ ha h
    obtain ⟨L', h1, h2⟩ := h
    have hr : Region.ready .any ops listed = [] := by simpa [planY] using hp
    have hq : up n Q .normal a w := ⟨L', ⟨ha.size, ha.defers, fun t v ht => ha.get t v (h1 t v ht)⟩, h2⟩
    cases fuel with
    | zero => exact ⟨hr, hq⟩
    | succ fuel => exact ⟨fun _ => hq, fun i hi => by rw [hr] at hi; cases hi⟩
  | q i t ih =>
    intro fuel listed S U L a w hf hp hS hU ha h
    cases fuel with
    | zero => cases hf
    | succ fuel =>
      simp only [planY, Bool.and_eq_true, Bool.not_eq_true'] at hp
      obtain ⟨hzl, hp1, hp2, hp3, hp4⟩ := hp
      obtain ⟨o, d, v, ho, hd, hdn, hw, hv, hk⟩ := h
      have hwz : ∃ oz, ops[z]? = some oz ∧ ∃ e ∈ oz.after, Region.binds .any e = true ∧ e.on = i := by
        unfold waits at hp3
        split at hp3
        · rename_i oz hoz
          obtain ⟨e, he, hb⟩ := List.any_eq_true.1 hp3
          simp only [Bool.and_eq_true] at hb
          exact ⟨oz, hoz, e, Array.mem_toList_iff.1 he, hb.1, Nat.eq_of_beq_eq_true hb.2⟩
        · cases hp3
      refine wpAnyY_firstZ (v := v) ho (Region.noSelect_spec hs) (fun c a w h => h.elim) hwz fuel listed a w hzl (Region.free_spec ho hp2) (by simpa using hp1) (.inl ⟨wanted_of_PWant ha hw, fun w' hw' => ?_⟩) hS hU ?_
      · have := hv w' hw' a.eval ha.ev o.dst o.pos o.after o.guard
        exact this
      · rw [hd]; exact ih _ _ _ _ _ _ _ hf hp4 hS hU (ha.put hdn v) hk
  | h i t ih =>
    intro fuel listed S U L a w hf hp hS hU ha h
    cases fuel with
    | zero => cases hf
    | succ fuel =>
      simp only [planY, Bool.and_eq_true, Bool.not_eq_true'] at hp
      obtain ⟨hiz, hp1, hp2, hp4⟩ := hp
      obtain ⟨o, d, v, ho, hd, hdn, hw, hv, hk⟩ := h
      refine wpAnyY_firstU (v := v) ho (Region.noSelect_spec hs) (fun c a w h => h.elim) (Nat.ne_of_beq_eq_false hiz) fuel listed a w (Region.free_spec ho hp2) (by simpa using hp1) (.inl ⟨wanted_of_PWant ha hw, fun w' hw' => ?_⟩) (fun _ => hS) hU ?_
      · have := hv w' hw' a.eval ha.ev o.dst o.pos o.after o.guard
        exact this
      · rw [hd]; exact ih _ _ _ _ _ _ _ hf hp4 hS hU (ha.put hdn v) hk
  | z i t ih =>
    intro fuel listed S U L a w hf hp hS hU ha h
    cases fuel with
    | zero => cases hf
    | succ fuel =>
      simp only [planY, Bool.and_eq_true, beq_iff_eq] at hp
      obtain ⟨hiz, hp1, hp2⟩ := hp
      have hiz := Nat.eq_of_beq_eq_true hiz
      subst hiz
      have hl : (listed.setIfInBounds i true).getD i true = true := by
        by_cases hl : i < listed.size
        · simp [hl]
        · simp [Array.getElem?_eq_none (Nat.le_of_not_lt hl)]
      refine ⟨fun h0 => (by rw [hp1] at h0; cases h0), fun i' hi' => ?_⟩
      rw [hp1] at hi'
      have : i' = i := by simpa using hi'
      subst this
      refine wpOp_mono (fun a' w' h3 => ⟨⟨fun e => (by rw [hl] at e; cases e), h3.1.2⟩, Y_listed _ _ _ _ hl h3.2⟩) (actY_step (z := i') (listed := listed.setIfInBounds i' true) (fuel := fuel) ha h fun S' U' L' a' w' h1 h2 h3 h4 => ih _ _ _ _ _ _ _ hf hp2 h1 h2 h3 h4)
  | a i t ih =>
    intro fuel listed S U L a w hf hp hS hU ha h
    cases fuel with
    | zero => cases hf
    | succ fuel =>
      simp only [planY, Bool.and_eq_true, beq_iff_eq] at hp
      refine ⟨fun h0 => (by rw [hp.1] at h0; cases h0), fun i' hi' => ?_⟩
      rw [hp.1] at hi'
      have : i' = i := by simpa using hi'
      subst this
      exact actY_step ha h fun S' U' L' a' w' h1 h2 h3 h4 => ih _ _ _ _ _ _ _ hf hp.2 h1 h2 h3 h4
  | b i t j u ih1 ih2 =>
    intro fuel listed S U L a w hf hp hS hU ha h
    cases fuel with
    | zero => cases hf
    | succ fuel =>
      simp only [planY, Bool.and_eq_true, beq_iff_eq] at hp
      simp only [Ty.deep, Bool.and_eq_true] at hf
      refine ⟨fun h0 => (by rw [hp.1] at h0; cases h0), fun i' hi' => ?_⟩
      rw [hp.1] at hi'
      have : i' = i ∨ i' = j := by simpa using hi'
      rcases this with rfl | rfl
      · exact actY_step ha h.1 fun S' U' L' a' w' h1 h2 h3 h4 => ih1 _ _ _ _ _ _ _ hf.1 hp.2.1 h1 h2 h3 h4
      · exact actY_step ha h.2 fun S' U' L' a' w' h1 h2 h3 h4 => ih2 _ _ _ _ _ _ _ hf.2 hp.2.2 h1 h2 h3 h4
  | c i t j u k v ih1 ih2 ih3 =>
    intro fuel listed S U L a w hf hp hS hU ha h
    cases fuel with
    | zero => cases hf
    | succ fuel =>
      simp only [planY, Bool.and_eq_true, beq_iff_eq] at hp
      simp only [Ty.deep, Bool.and_eq_true] at hf
      refine ⟨fun h0 => (by rw [hp.1] at h0; cases h0), fun i' hi' => ?_⟩
      rw [hp.1] at hi'
      have : i' = i ∨ i' = j ∨ i' = k := by simpa using hi'
      rcases this with rfl | rfl | rfl
      · exact actY_step ha h.1 fun S' U' L' a' w' h1 h2 h3 h4 => ih1 _ _ _ _ _ _ _ hf.1 hp.2.1 h1 h2 h3 h4
      · exact actY_step ha h.2.1 fun S' U' L' a' w' h1 h2 h3 h4 => ih2 _ _ _ _ _ _ _ hf.2.1 hp.2.2.1 h1 h2 h3 h4
      · exact actY_step ha h.2.2 fun S' U' L' a' w' h1 h2 h3 h4 => ih3 _ _ _ _ _ _ _ hf.2.2 hp.2.2.2 h1 h2 h3 h4
/-- The rule: R tells what comes out, whatever the order. -/
theorem W_drawY {id : Nat} {X : Type} (Nf : X → Env) (R : X → World → Prop) (z lo hi p q lo2 hi2 p2 q2 : Nat) (t : Ty) (hm : P.follows .mixedOrders = true) (hs : Region.noSelect ops = true) (hd : t.deep ops.size = true)
    (hp : planY ops z t (Array.replicate ops.size false) = true) (h : ∀ wd, Ext w wd → wd.heap.size = w.heap.size → PY P n ops (fun _ L' w' => ∃ x, L' = Nf x ++ L ∧ R x w') t (fun w' => Rg lo hi p q wd w' ∧ True) (fun w' => Rg lo2 hi2 p2 q2 wd w' ∧ True) L wd)
    (k : ∀ x w', R x w' → Q .normal (Nf x ++ L) w') : W P n (.region id ops true) Q L w := fun a ha =>
  wp_region_any hm (wpAny_of_Y (S := fun w' => Rg lo hi p q (drewW w) w' ∧ True) (U := fun w' => Rg lo2 hi2 p2 q2 (drewW w) w' ∧ True) (z := z) _ _ _ _
    (wpAnyY_of_tree (P := P) (n := n) (Q := Q) (z := z) hs t _ _ _ _ L a _ hd hp ⟨Rg.refl, trivial⟩ ⟨Rg.refl, trivial⟩ ha (PY_mono (fun L w hx => by obtain ⟨x, rfl, hr⟩ := hx; exact k x w hr) t _ _ _ _ (h _ (Ext.drew w) rfl))))
end
section
variable {P : Program} {n : Nat} {Q : Post} {L : Env} {w : World} {ops : Array Oper} {op : Op} {ty : TypeId} {pos : String} {aft : Array Edge} {d i : Nat} {v : Value} {S U : World → Prop} {t : Ty} {N : Value → World → Prop}
theorem PY_nil {X : Type} {Nf : X → Env} {R : X → World → Prop} {L' : Env} (m : Nat) (x : X) (hD : L'.drop m = L) (hs : Subs (Nf x) L') (hk : ((L'.take m).all fun e => (lk (Nf x) e.1).isSome || (lk L e.1).isNone) = true) (hR : R x w) : PY P n ops (fun _ L' w' => ∃ x, L' = Nf x ++ L ∧ R x w') .done S U L' w := by
  have e : L' = L'.take m ++ L := by rw [← hD, List.take_append_drop]
  refine ⟨_, fun t v ht => ?_, x, rfl, hR⟩
  rw [e] at hs ⊢
  exact Subs.of_keys hs hk t v ht
theorem PY_a (h : PB P n ops i (PY P n ops Q t) S U L w) : PY P n ops Q (.a i t) S U L w := h
theorem PY_z (h : PB P n ops i (PY P n ops Q t) (fun _ => True) U L w) : PY P n ops Q (.z i t) S U L w := h
theorem PY_b {j : Nat} {u : Ty} (h1 : PB P n ops i (PY P n ops Q t) S U L w) (h2 : PB P n ops j (PY P n ops Q u) S U L w) : PY P n ops Q (.b i t j u) S U L w := ⟨h1, h2⟩
theorem PY_c {j k : Nat} {u v : Ty} (h1 : PB P n ops i (PY P n ops Q t) S U L w) (h2 : PB P n ops j (PY P n ops Q u) S U L w) (h3 : PB P n ops k (PY P n ops Q v) S U L w) : PY P n ops Q (.c i t j u k v) S U L w := ⟨h1, h2, h3⟩
theorem PY_q (ho : ops[i]? = some ⟨some d, op, ty, pos, aft, none⟩) (hd : Nat.blt d n = true) (h : ∀ w', S w' → EvR P L op ty w' v)
    (k : PY P n ops Q t S U ((d, v) :: L) w) : PY P n ops Q (.q i t) S U L w := ⟨_, d, v, ho, rfl, hd, rfl, h, k⟩
theorem PY_h (ho : ops[i]? = some ⟨some d, op, ty, pos, aft, none⟩) (hd : Nat.blt d n = true) (h : ∀ w', U w' → EvR P L op ty w' v)
    (k : PY P n ops Q t S U ((d, v) :: L) w) : PY P n ops Q (.h i t) S U L w := ⟨_, d, v, ho, rfl, hd, rfl, h, k⟩
theorem PB_m {K : WP → WP → Env → World → Prop} (lo hi p q lo2 hi2 p2 q2 : Nat) (ho : ops[i]? = some ⟨some d, op, ty, pos, aft, none⟩) (hd : Nat.blt d n = true) (h : EvM P L op ty w N)
    (k : ∀ v w', N v w' → (∀ x, Rg lo hi p q w' x → S x) ∧ (∀ x, Rg lo2 hi2 p2 q2 w' x → U x) ∧ K (fun x => Rg lo hi p q w' x ∧ True) (fun x => Rg lo2 hi2 p2 q2 w' x ∧ True) ((d, v) :: L) w') : PB P n ops i K S U L w :=
  ⟨_, ho, rfl, h.mono fun v w' hn => ⟨fun x => Rg lo hi p q w' x ∧ True, fun x => Rg lo2 hi2 p2 q2 w' x ∧ True, fun x hx => (k v w' hn).1 x hx.1, fun x hx => (k v w' hn).2.1 x hx.1, ⟨Rg.refl, trivial⟩, ⟨Rg.refl, trivial⟩, fun d' hd' => by cases hd'; exact ⟨hd, (k v w' hn).2.2⟩, fun h => by cases h⟩⟩
theorem PB_s {K : WP → WP → Env → World → Prop} (lo hi p q lo2 hi2 p2 q2 : Nat) (ho : ops[i]? = some ⟨none, op, ty, pos, aft, none⟩) (h : EvM P L op ty w N)
    (k : ∀ v w', N v w' → (∀ x, Rg lo hi p q w' x → S x) ∧ (∀ x, Rg lo2 hi2 p2 q2 w' x → U x) ∧ K (fun x => Rg lo hi p q w' x ∧ True) (fun x => Rg lo2 hi2 p2 q2 w' x ∧ True) L w') : PB P n ops i K S U L w :=
  ⟨_, ho, rfl, h.mono fun v w' hn => ⟨fun x => Rg lo hi p q w' x ∧ True, fun x => Rg lo2 hi2 p2 q2 w' x ∧ True, fun x hx => (k v w' hn).1 x hx.1, fun x hx => (k v w' hn).2.1 x hx.1, ⟨Rg.refl, trivial⟩, ⟨Rg.refl, trivial⟩, fun d' hd' => (by cases hd'), fun _ => (k v w' hn).2.2⟩⟩
end
end Go.Proofs.YtdpdjbfjjlpfgaaGreatDoor
