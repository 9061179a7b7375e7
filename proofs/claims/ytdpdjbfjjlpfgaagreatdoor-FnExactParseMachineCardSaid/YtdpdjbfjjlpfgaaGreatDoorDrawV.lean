/- A region that draws its order, by a plan: what holds of the worlds between its operations may grow stronger behind each one that acts. No condition. -/
import Derived.Test.YtdpdjbfjjlpfgaaGreatDoorDraw
namespace Go.Proofs.YtdpdjbfjjlpfgaaGreatDoor
open Go Go.RowKit

section
variable {P : Program} {md : Region.Mode} {ops : Array Oper} {Q : Exit → Act → World → Prop} {S S' : World → Prop}
theorem wpAnyH_S (h : ∀ w, S' w → S w) : ∀ (fuel : Nat) (listed : Array Bool) (a : Act) (w : World), wpAnyH P md ops Q S' fuel listed a w → wpAnyH P md ops Q S fuel listed a w
  | 0, _, _, _, hh => hh
  | fuel + 1, _, _, _, hh => ⟨hh.1, fun i hi => wpOp_mono (fun a' w' h' => ⟨h _ h'.1, wpAnyH_S h fuel _ a' w' h'.2⟩) (hh.2 i hi)⟩
end

def PV (P : Program) (n : Nat) (ops : Array Oper) (Q : Post) : List (Nat × Bool) → (World → Prop) → Env → World → Prop
  | [], _, L, w => Q .normal L w
  | (i, true) :: r, S, L, w => ∃ o d v, ops[i]? = some o ∧ o.dst = some d ∧ Nat.blt d n = true ∧
      ((PWant ops L o = some true ∧ ∀ w', S w' → EvR P L o.op o.type w' v) ∨ (PWant ops L o = some false ∧ v = undef)) ∧ PV P n ops Q r S ((d, v) :: L) w
  | (i, false) :: r, S, L, w => ∃ o, ops[i]? = some o ∧
      ((PWant ops L o = some true ∧ EvM P L o.op o.type w (fun v w' => ∃ S' : World → Prop, (∀ x, S' x → S x) ∧ S' w' ∧ (∀ d, o.dst = some d → Nat.blt d n = true ∧ PV P n ops Q r S' ((d, v) :: L) w') ∧ (o.dst = none → PV P n ops Q r S' L w'))) ∨
       (PWant ops L o = some false ∧ ∃ d, o.dst = some d ∧ Nat.blt d n = true ∧ PV P n ops Q r S ((d, undef) :: L) w))

theorem wpAnyH_of_planV {P : Program} {n : Nat} {ops : Array Oper} {Q : Post} (hs : Region.noSelect ops = true) :
    ∀ (plan : List (Nat × Bool)) (listed : Array Bool) (S : World → Prop) (L : Env) (a : Act) (w : World), planB ops plan listed = true → S w → Sat n a L →
      PV P n ops Q plan S L w → wpAnyH P .any ops (up n Q) S plan.length listed a w := by
  intro plan
  induction plan with
  | nil =>
    intro listed S L a w hp _ ha h
    exact wpAnyH_done (by simpa [planB] using hp) ⟨L, ha, h⟩ _
  | cons x r ih =>
    obtain ⟨i, q⟩ := x
    intro listed S L a w hp hS ha h
    cases q with
    | true =>
      simp only [planB, Bool.and_eq_true] at hp
      obtain ⟨o, d, v, ho, hd, hdn, hv, hk⟩ := h
      refine wpAnyH_take (v := v) ho hs hp.1.2 hp.1.1 (fun c a w h => h.elim) ?_ hS ?_
      · rcases hv with ⟨hw, hv⟩ | ⟨hw, hv⟩
        · refine .inl ⟨wanted_of_PWant ha hw, fun w' hw' => ?_⟩
          have := hv w' hw' a.eval ha.ev o.dst o.pos o.after o.guard
          exact this
        · exact .inr ⟨wanted_of_PWant ha hw, hv⟩
      · rw [hd]
        exact ih _ _ _ _ _ hp.2 hS (ha.put hdn v) hk
    | false =>
      simp only [planB, Bool.and_eq_true, beq_iff_eq] at hp
      obtain ⟨o, ho, hv⟩ := h
      refine wpAnyH_all hp.1 (by simp) ?_
      intro i' hi'
      have : i' = i := by simpa using hi'
      subst this
      unfold wpOp
      simp only [ho]
      rcases hv with ⟨hw, hv⟩ | ⟨hw, d, hd, hdn, hk⟩
      · rw [if_pos (wanted_of_PWant ha hw)]
        refine .inl (Oper.wp_of_ok (hv a.eval ha.ev o.dst o.pos o.after o.guard) ?_)
        intro v w' hn
        obtain ⟨S', hS1, hS2, h1, h2⟩ := hn
        refine ⟨hS1 _ hS2, wpAnyH_S hS1 _ _ _ _ ?_⟩
        cases hd : o.dst with
        | none => exact ih _ _ _ _ _ hp.2 hS2 ha (h2 hd)
        | some d => exact ih _ _ _ _ _ hp.2 hS2 (ha.put (h1 d hd).1 v) (h1 d hd).2
      · rw [if_neg (by rw [wanted_of_PWant ha hw]; simp), hd]
        exact ⟨hS, ih _ _ _ _ _ hp.2 hS (ha.put hdn undef) hk⟩

section
variable {P : Program} {n : Nat} {Q : Post} {L : Env} {w : World} {ops : Array Oper} {op : Op} {ty : TypeId} {pos : String} {aft : Array Edge} {d i : Nat} {v : Value} {S : World → Prop} {r : List (Nat × Bool)} {g : Option (Nat × Bool)} {N : Value → World → Prop}

theorem W_drawV {id : Nat} (lo hi p q : Nat) (plan : List (Nat × Bool)) (hm : P.follows .mixedOrders = true) (hs : Region.noSelect ops = true) (hl : plan.length = ops.size)
    (hp : planB ops plan (Array.replicate ops.size false) = true) (h : ∀ wd, Ext w wd → wd.heap.size = w.heap.size → PV P n ops Q plan (fun w' => Rg lo hi p q wd w' ∧ True) L wd) : W P n (.region id ops true) Q L w := fun a ha =>
  wp_region_held (S := fun w' => Rg lo hi p q (drewW w) w' ∧ True) hm (by
    have := wpAnyH_of_planV (P := P) (n := n) (Q := Q) hs plan _ (fun w' => Rg lo hi p q (drewW w) w' ∧ True) L a _ hp ⟨Rg.refl, trivial⟩ ha (h _ (Ext.drew w) rfl); rw [hl] at this; exact this)
theorem PV_nil (h : Q .normal L w) : PV P n ops Q [] S L w := h
theorem PV_q (ho : ops[i]? = some ⟨some d, op, ty, pos, aft, none⟩) (hd : Nat.blt d n = true) (h : ∀ w', S w' → EvR P L op ty w' v)
    (k : PV P n ops Q r S ((d, v) :: L) w) : PV P n ops Q ((i, true) :: r) S L w := ⟨_, d, v, ho, rfl, hd, .inl ⟨rfl, h⟩, k⟩
theorem PV_qg {j t : Nat} {b c : Bool} (ho : ops[i]? = some ⟨some d, op, ty, pos, aft, some (j, b)⟩) (hj : (ops[j]?).bind (·.dst) = some t) (hv : lk L t = some (.bool c)) (hc : c = b) (hd : Nat.blt d n = true) (h : ∀ w', S w' → EvR P L op ty w' v)
    (k : PV P n ops Q r S ((d, v) :: L) w) : PV P n ops Q ((i, true) :: r) S L w := ⟨_, d, v, ho, rfl, hd, .inl ⟨PWant_yes rfl hj hv hc, h⟩, k⟩
theorem PV_no {q : Bool} {j t : Nat} {b c : Bool} (ho : ops[i]? = some ⟨some d, op, ty, pos, aft, some (j, b)⟩) (hj : (ops[j]?).bind (·.dst) = some t) (hv : lk L t = some (.bool c)) (hc : c = !b) (hd : Nat.blt d n = true)
    (k : PV P n ops Q r S ((d, undef) :: L) w) : PV P n ops Q ((i, q) :: r) S L w := by
  cases q
  · exact ⟨_, ho, .inr ⟨PWant_no rfl hj hv hc, d, rfl, hd, k⟩⟩
  · exact ⟨_, d, undef, ho, rfl, hd, .inr ⟨PWant_no rfl hj hv hc, rfl⟩, k⟩
theorem PV_nou {q : Bool} {j t : Nat} {b : Bool} (ho : ops[i]? = some ⟨some d, op, ty, pos, aft, some (j, b)⟩) (hj : (ops[j]?).bind (·.dst) = some t) (hv : lk L t = some undef) (hd : Nat.blt d n = true)
    (k : PV P n ops Q r S ((d, undef) :: L) w) : PV P n ops Q ((i, q) :: r) S L w := by
  have hw : PWant ops L ⟨some d, op, ty, pos, aft, some (j, b)⟩ = some false := by simp [PWant, hj, hv, undef]
  cases q
  · exact ⟨_, ho, .inr ⟨hw, d, rfl, hd, k⟩⟩
  · exact ⟨_, d, undef, ho, rfl, hd, .inr ⟨hw, rfl⟩, k⟩
theorem PV_mm {lo hi p q : Nat} (ho : ops[i]? = some ⟨some d, op, ty, pos, aft, g⟩) (hg : PWant ops L ⟨some d, op, ty, pos, aft, g⟩ = some true) (hd : Nat.blt d n = true) (h : EvM P L op ty w N)
    (k : ∀ v w', N v w' → (∀ x, Rg lo hi p q w' x → S x) ∧ PV P n ops Q r (fun x => Rg lo hi p q w' x ∧ True) ((d, v) :: L) w') : PV P n ops Q ((i, false) :: r) S L w :=
  ⟨_, ho, .inl ⟨hg, h.mono fun v w' hn => ⟨fun x => Rg lo hi p q w' x ∧ True, fun x hx => (k v w' hn).1 x hx.1, ⟨Rg.refl, trivial⟩, fun d' hd' => by cases hd'; exact ⟨hd, (k v w' hn).2⟩, fun h => by cases h⟩⟩⟩
theorem PV_m (lo hi p q : Nat) (ho : ops[i]? = some ⟨some d, op, ty, pos, aft, none⟩) (hd : Nat.blt d n = true) (h : EvM P L op ty w N)
    (k : ∀ v w', N v w' → (∀ x, Rg lo hi p q w' x → S x) ∧ PV P n ops Q r (fun x => Rg lo hi p q w' x ∧ True) ((d, v) :: L) w') : PV P n ops Q ((i, false) :: r) S L w := PV_mm ho rfl hd h k
theorem PV_mg (lo hi p q : Nat) {j t : Nat} {b c : Bool} (ho : ops[i]? = some ⟨some d, op, ty, pos, aft, some (j, b)⟩) (hj : (ops[j]?).bind (·.dst) = some t) (hv : lk L t = some (.bool c)) (hc : c = b) (hd : Nat.blt d n = true) (h : EvM P L op ty w N)
    (k : ∀ v w', N v w' → (∀ x, Rg lo hi p q w' x → S x) ∧ PV P n ops Q r (fun x => Rg lo hi p q w' x ∧ True) ((d, v) :: L) w') : PV P n ops Q ((i, false) :: r) S L w := PV_mm ho (PWant_yes rfl hj hv hc) hd h k
theorem PV_s (lo hi p q : Nat) (ho : ops[i]? = some ⟨none, op, ty, pos, aft, none⟩) (h : EvM P L op ty w N)
    (k : ∀ v w', N v w' → (∀ x, Rg lo hi p q w' x → S x) ∧ PV P n ops Q r (fun x => Rg lo hi p q w' x ∧ True) L w') : PV P n ops Q ((i, false) :: r) S L w :=
  ⟨_, ho, .inl ⟨rfl, h.mono fun v w' hn => ⟨fun x => Rg lo hi p q w' x ∧ True, fun x hx => (k v w' hn).1 x hx.1, ⟨Rg.refl, trivial⟩, fun d' hd' => (by cases hd'), fun _ => (k v w' hn).2⟩⟩⟩
theorem PV_splitv {t : Nat} {b : Bool} (_hv : lk L t = some (.bool b)) (ht : b = true → PV P n ops Q r S L w) (hf : b = false → PV P n ops Q r S L w) : PV P n ops Q r S L w := by
  cases b
  · exact hf rfl
  · exact ht rfl
end
end Go.Proofs.YtdpdjbfjjlpfgaaGreatDoor
