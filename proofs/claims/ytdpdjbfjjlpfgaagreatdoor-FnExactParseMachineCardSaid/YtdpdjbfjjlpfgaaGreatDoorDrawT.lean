/- A region that draws its order and in which more than one operation that acts may come up: by a tree of orders; what comes out is said once, for all of them. No condition. -/
import Derived.Test.YtdpdjbfjjlpfgaaGreatDoorDrawV
namespace Go.Proofs.YtdpdjbfjjlpfgaaGreatDoor
open Go Go.RowKit

/-- The orders: q: it only reads, taken first; a, b, c: one, two or three that act may come up. -/
inductive Tr where
  | done
  | q (i : Nat) (t : Tr)
  | a (i : Nat) (t : Tr)
  | b (i : Nat) (t : Tr) (j : Nat) (u : Tr)
  | c (i : Nat) (t : Tr) (j : Nat) (u : Tr) (k : Nat) (v : Tr)
def Tr.deep : Tr → Nat → Bool
  | .done, 0 => true
  | .q _ t, n + 1 => t.deep n
  | .a _ t, n + 1 => t.deep n
  | .b _ t _ u, n + 1 => t.deep n && u.deep n
  | .c _ t _ u _ v, n + 1 => t.deep n && (u.deep n && v.deep n)
  | _, _ => false
def planT (ops : Array Oper) : Tr → Array Bool → Bool
  | .done, listed => (Region.ready .any ops listed).isEmpty
  | .q i t, listed => (Region.ready .any ops listed).contains i && Region.free .any ops listed i && planT ops t (listed.setIfInBounds i true)
  | .a i t, listed => (Region.ready .any ops listed == [i]) && planT ops t (listed.setIfInBounds i true)
  | .b i t j u, listed => (Region.ready .any ops listed == [i, j]) && (planT ops t (listed.setIfInBounds i true) && planT ops u (listed.setIfInBounds j true))
  | .c i t j u k v, listed => (Region.ready .any ops listed == [i, j, k]) && (planT ops t (listed.setIfInBounds i true) && (planT ops u (listed.setIfInBounds j true) && planT ops v (listed.setIfInBounds k true)))

/-- Operation i acts, and K holds behind it. -/
def PA (P : Program) (n : Nat) (ops : Array Oper) (i : Nat) (K : (World → Prop) → Env → World → Prop) (S : World → Prop) (L : Env) (w : World) : Prop :=
  ∃ o, ops[i]? = some o ∧ PWant ops L o = some true ∧ EvM P L o.op o.type w (fun v w' => ∃ S' : World → Prop, (∀ x, S' x → S x) ∧ S' w' ∧ (∀ d, o.dst = some d → Nat.blt d n = true ∧ K S' ((d, v) :: L) w') ∧ (o.dst = none → K S' L w'))
def PT (P : Program) (n : Nat) (ops : Array Oper) (Q : Post) : Tr → (World → Prop) → Env → World → Prop
  | .done, _, L, w => ∃ L', (∀ t v, lk L' t = some v → lk L t = some v) ∧ Q .normal L' w
  | .q i t, S, L, w => ∃ o d v, ops[i]? = some o ∧ o.dst = some d ∧ Nat.blt d n = true ∧ PWant ops L o = some true ∧ (∀ w', S w' → EvR P L o.op o.type w' v) ∧ PT P n ops Q t S ((d, v) :: L) w
  | .a i t, S, L, w => PA P n ops i (PT P n ops Q t) S L w
  | .b i t j u, S, L, w => PA P n ops i (PT P n ops Q t) S L w ∧ PA P n ops j (PT P n ops Q u) S L w
  | .c i t j u k v, S, L, w => PA P n ops i (PT P n ops Q t) S L w ∧ PA P n ops j (PT P n ops Q u) S L w ∧ PA P n ops k (PT P n ops Q v) S L w

section
variable {P : Program} {n : Nat} {Q Q' : Post} {L : Env} {w : World} {ops : Array Oper} {S : World → Prop}
theorem PA.mono {i : Nat} {K K' : (World → Prop) → Env → World → Prop} (hK : ∀ S L w, K S L w → K' S L w) (h : PA P n ops i K S L w) : PA P n ops i K' S L w := by
  obtain ⟨o, ho, hw, hv⟩ := h
  refine ⟨o, ho, hw, hv.mono fun v w' hn => ?_⟩
  obtain ⟨S', h1, h2, h3, h4⟩ := hn
  exact ⟨S', h1, h2, fun d hd => ⟨(h3 d hd).1, hK _ _ _ (h3 d hd).2⟩, fun hd => hK _ _ _ (h4 hd)⟩
theorem PT_mono (hQ : ∀ L w, Q .normal L w → Q' .normal L w) : ∀ (t : Tr) (S : World → Prop) (L : Env) (w : World), PT P n ops Q t S L w → PT P n ops Q' t S L w := by
  intro t
  induction t with
  | done => intro S L w h; obtain ⟨L', h1, h2⟩ := h; exact ⟨L', h1, hQ _ _ h2⟩
  | q i t ih => intro S L w h; obtain ⟨o, d, v, h1, h2, h3, h4, h5, h6⟩ := h; exact ⟨o, d, v, h1, h2, h3, h4, h5, ih _ _ _ h6⟩
  | a i t ih => intro S L w h; exact PA.mono ih h
  | b i t j u ih1 ih2 => intro S L w h; exact ⟨PA.mono ih1 h.1, PA.mono ih2 h.2⟩
  | c i t j u k v ih1 ih2 ih3 => intro S L w h; exact ⟨PA.mono ih1 h.1, PA.mono ih2 h.2.1, PA.mono ih3 h.2.2⟩
theorem act_step {i fuel : Nat} {listed : Array Bool} {a : Act} {K : (World → Prop) → Env → World → Prop} (ha : Sat n a L) (h : PA P n ops i K S L w)
    (ih : ∀ (S' : World → Prop) (L' : Env) (a' : Act) (w' : World), S' w' → Sat n a' L' → K S' L' w' → wpAnyH P .any ops (up n Q) S' fuel listed a' w') :
    wpOp P ops (up n Q) i (fun a' w' => S w' ∧ wpAnyH P .any ops (up n Q) S fuel listed a' w') a w := by
  obtain ⟨o, ho, hw, hv⟩ := h
  unfold wpOp
  simp only [ho]
  rw [if_pos (wanted_of_PWant ha hw)]
  refine .inl (Oper.wp_of_ok (hv a.eval ha.ev o.dst o.pos o.after o.guard) ?_)
  intro v w' hn
  obtain ⟨S', hS1, hS2, h1, h2⟩ := hn
  refine ⟨hS1 _ hS2, wpAnyH_S hS1 _ _ _ _ ?_⟩
  cases hd : o.dst with
  | none => exact ih _ _ _ _ hS2 ha (h2 hd)
  | some d => exact ih _ _ _ _ hS2 (ha.put (h1 d hd).1 v) (h1 d hd).2
theorem wpAnyH_of_tree (hs : Region.noSelect ops = true) : ∀ (t : Tr) (fuel : Nat) (listed : Array Bool) (S : World → Prop) (L : Env) (a : Act) (w : World), t.deep fuel = true → planT ops t listed = true → S w → Sat n a L →
      PT P n ops Q t S L w → wpAnyH P .any ops (up n Q) S fuel listed a w := by
  intro t
  induction t with
  | done =>
    intro fuel listed S L a w hf hp _ ha h
    obtain ⟨L', h1, h2⟩ := h
    exact wpAnyH_done (by simpa [planT] using hp) ⟨L', ⟨ha.size, ha.defers, fun t v ht => ha.get t v (h1 t v ht)⟩, h2⟩ _
  | q i t ih =>
    intro fuel listed S L a w hf hp hS ha h
    cases fuel with
    | zero => cases hf
    | succ fuel =>
      simp only [planT, Bool.and_eq_true] at hp
      obtain ⟨o, d, v, ho, hd, hdn, hw, hv, hk⟩ := h
      refine wpAnyH_take (v := v) ho hs hp.1.2 hp.1.1 (fun c a w h => h.elim) (.inl ⟨wanted_of_PWant ha hw, fun w' hw' => ?_⟩) hS ?_
      · have := hv w' hw' a.eval ha.ev o.dst o.pos o.after o.guard
        exact this
      · rw [hd]; exact ih _ _ _ _ _ _ hf hp.2 hS (ha.put hdn v) hk
  | a i t ih =>
    intro fuel listed S L a w hf hp hS ha h
    cases fuel with
    | zero => cases hf
    | succ fuel =>
      simp only [planT, Bool.and_eq_true, beq_iff_eq] at hp
      refine wpAnyH_all hp.1 (by simp) fun i' hi' => ?_
      have : i' = i := by simpa using hi'
      subst this
      exact act_step ha h fun S' L' a' w' h1 h2 h3 => ih _ _ _ _ _ _ hf hp.2 h1 h2 h3
  | b i t j u ih1 ih2 =>
    intro fuel listed S L a w hf hp hS ha h
    cases fuel with
    | zero => cases hf
    | succ fuel =>
      simp only [planT, Bool.and_eq_true, beq_iff_eq] at hp
      simp only [Tr.deep, Bool.and_eq_true] at hf
      refine wpAnyH_all hp.1 (by simp) fun i' hi' => ?_
      have : i' = i ∨ i' = j := by simpa using hi'
      rcases this with rfl | rfl
      · exact act_step ha h.1 fun S' L' a' w' h1 h2 h3 => ih1 _ _ _ _ _ _ hf.1 hp.2.1 h1 h2 h3
      · exact act_step ha h.2 fun S' L' a' w' h1 h2 h3 => ih2 _ _ _ _ _ _ hf.2 hp.2.2 h1 h2 h3
  | c i t j u k v ih1 ih2 ih3 =>
    intro fuel listed S L a w hf hp hS ha h
    cases fuel with
    | zero => cases hf
    | succ fuel =>
      simp only [planT, Bool.and_eq_true, beq_iff_eq] at hp
      simp only [Tr.deep, Bool.and_eq_true] at hf
      refine wpAnyH_all hp.1 (by simp) fun i' hi' => ?_
      have : i' = i ∨ i' = j ∨ i' = k := by simpa using hi'
      rcases this with rfl | rfl | rfl
      · exact act_step ha h.1 fun S' L' a' w' h1 h2 h3 => ih1 _ _ _ _ _ _ hf.1 hp.2.1 h1 h2 h3
      · exact act_step ha h.2.1 fun S' L' a' w' h1 h2 h3 => ih2 _ _ _ _ _ _ hf.2.1 hp.2.2.1 h1 h2 h3
      · exact act_step ha h.2.2 fun S' L' a' w' h1 h2 h3 => ih3 _ _ _ _ _ _ hf.2.2 hp.2.2.2 h1 h2 h3
/-- The rule: R tells what comes out, whatever the order; the slots in Lf alone are known behind it. -/
theorem W_drawT {id : Nat} {X : Type} (Nf : X → Env) (R : X → World → Prop) (b0 : Nat) (hb0 : b0 ≤ w.heap.size) (t : Tr) (hm : P.follows .mixedOrders = true) (hs : Region.noSelect ops = true) (hd : t.deep ops.size = true)
    (hp : planT ops t (Array.replicate ops.size false) = true) (h : ∀ wd, Ext w wd → wd.heap.size = w.heap.size → PT P n ops (fun _ L' w' => ∃ x, L' = Nf x ++ L ∧ R x w') t (fun w' => Lo b0 wd w' ∧ True) L wd)
    (k : ∀ x w', R x w' → Q .normal (Nf x ++ L) w') : W P n (.region id ops true) Q L w := fun a ha =>
  wp_region_held (S := fun w' => Lo b0 (drewW w) w' ∧ True) hm
    (wpAnyH_of_tree (P := P) (n := n) (Q := Q) hs t _ _ (fun w' => Lo b0 (drewW w) w' ∧ True) L a _ hd hp ⟨Lo.refl hb0, trivial⟩ ha (PT_mono (fun L w hx => by obtain ⟨x, rfl, hr⟩ := hx; exact k x w hr) t _ _ _ (h _ (Ext.drew w) rfl)))
end
section
variable {P : Program} {n : Nat} {Q : Post} {L : Env} {w : World} {ops : Array Oper} {op : Op} {ty : TypeId} {pos : String} {aft : Array Edge} {d i : Nat} {v : Value} {S : World → Prop} {t : Tr} {N : Value → World → Prop}
/-- A leaf: m slots were filled; those in Nf are told, none of the others was known before. -/
theorem Subs.of_keys {Nf D L : Env} (h1 : Subs Nf (D ++ L)) (h2 : (D.all fun e => (lk Nf e.1).isSome || (lk L e.1).isNone) = true) : ∀ t v, lk (Nf ++ L) t = some v → lk (D ++ L) t = some v := by
  intro t v ht
  have app : ∀ (E : Env), lk (E ++ L) t = (match lk E t with | some u => some u | none => lk L t) := by
    intro E
    induction E with
    | nil => rfl
    | cons e r ih =>
      obtain ⟨s, u⟩ := e
      simp only [List.cons_append, lk]
      cases hb : Nat.beq s t with
      | true => rfl
      | false => simpa using ih
  cases hN : lk Nf t with
  | some u =>
    rw [app, hN] at ht
    rw [← ht]; exact h1.lkAll t u hN
  | none =>
    rw [app, hN] at ht
    rw [app]
    cases hD : lk D t with
    | none => exact ht
    | some u =>
      have : ∃ e ∈ D, e.1 = t := by
        clear app h1 h2
        induction D with
        | nil => cases hD
        | cons e r ih =>
          obtain ⟨s, x⟩ := e
          simp only [lk] at hD
          cases hb : Nat.beq s t with
          | true => exact ⟨_, List.mem_cons_self, Nat.eq_of_beq_eq_true hb⟩
          | false =>
            rw [hb] at hD
            obtain ⟨e, he, h⟩ := ih (by simpa using hD)
            exact ⟨e, List.mem_cons_of_mem _ he, h⟩
      obtain ⟨e, he, rfl⟩ := this
      have := List.all_eq_true.1 h2 e he
      have ht : lk L e.1 = some v := ht
      rw [hN, ht] at this
      simp at this
theorem PT_nil {X : Type} {Nf : X → Env} {R : X → World → Prop} {L' : Env} (m : Nat) (x : X) (hD : L'.drop m = L) (hs : Subs (Nf x) L') (hk : ((L'.take m).all fun e => (lk (Nf x) e.1).isSome || (lk L e.1).isNone) = true) (hR : R x w) : PT P n ops (fun _ L' w' => ∃ x, L' = Nf x ++ L ∧ R x w') .done S L' w := by
  have e : L' = L'.take m ++ L := by rw [← hD, List.take_append_drop]
  refine ⟨_, fun t v ht => ?_, x, rfl, hR⟩
  rw [e] at hs ⊢
  exact Subs.of_keys hs hk t v ht
abbrev Blk.num {w : World} {b : Nat} {T : TypeId} {cs : List Value} (_ : Blk w b T cs) : Nat := b
theorem PT_a (h : PA P n ops i (PT P n ops Q t) S L w) : PT P n ops Q (.a i t) S L w := h
theorem PT_b {j : Nat} {u : Tr} (h1 : PA P n ops i (PT P n ops Q t) S L w) (h2 : PA P n ops j (PT P n ops Q u) S L w) : PT P n ops Q (.b i t j u) S L w := ⟨h1, h2⟩
theorem PT_c {j k : Nat} {u v : Tr} (h1 : PA P n ops i (PT P n ops Q t) S L w) (h2 : PA P n ops j (PT P n ops Q u) S L w) (h3 : PA P n ops k (PT P n ops Q v) S L w) : PT P n ops Q (.c i t j u k v) S L w := ⟨h1, h2, h3⟩
theorem PT_q (ho : ops[i]? = some ⟨some d, op, ty, pos, aft, none⟩) (hd : Nat.blt d n = true) (h : ∀ w', S w' → EvR P L op ty w' v)
    (k : PT P n ops Q t S ((d, v) :: L) w) : PT P n ops Q (.q i t) S L w := ⟨_, d, v, ho, rfl, hd, rfl, h, k⟩
theorem PA_m {K : (World → Prop) → Env → World → Prop} (b0 : Nat) (ho : ops[i]? = some ⟨some d, op, ty, pos, aft, none⟩) (hd : Nat.blt d n = true) (h : EvM P L op ty w N)
    (k : ∀ v w', N v w' → b0 ≤ w'.heap.size ∧ (∀ x, Lo b0 w' x → S x) ∧ K (fun x => Lo b0 w' x ∧ True) ((d, v) :: L) w') : PA P n ops i K S L w :=
  ⟨_, ho, rfl, h.mono fun v w' hn => ⟨fun x => Lo b0 w' x ∧ True, fun x hx => (k v w' hn).2.1 x hx.1, ⟨Lo.refl (k v w' hn).1, trivial⟩, fun d' hd' => by cases hd'; exact ⟨hd, (k v w' hn).2.2⟩, fun h => by cases h⟩⟩
theorem PA_s {K : (World → Prop) → Env → World → Prop} (b0 : Nat) (ho : ops[i]? = some ⟨none, op, ty, pos, aft, none⟩) (h : EvM P L op ty w N)
    (k : ∀ v w', N v w' → b0 ≤ w'.heap.size ∧ (∀ x, Lo b0 w' x → S x) ∧ K (fun x => Lo b0 w' x ∧ True) L w') : PA P n ops i K S L w :=
  ⟨_, ho, rfl, h.mono fun v w' hn => ⟨fun x => Lo b0 w' x ∧ True, fun x hx => (k v w' hn).2.1 x hx.1, ⟨Lo.refl (k v w' hn).1, trivial⟩, fun d' hd' => (by cases hd'), fun _ => (k v w' hn).2.2⟩⟩
end
end Go.Proofs.YtdpdjbfjjlpfgaaGreatDoor
