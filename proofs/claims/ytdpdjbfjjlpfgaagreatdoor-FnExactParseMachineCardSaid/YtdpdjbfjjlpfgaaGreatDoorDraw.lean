/- Regions that draw their order, and whose last act writes what was read: up to that act a condition on the world holds; behind it none is asked. Blocks of one range may be written. No condition. -/
import Derived.Test.YtdpdjbfjjlpfgaaGreatDoorMore
namespace Go.Proofs.YtdpdjbfjjlpfgaaGreatDoor
open Go Go.RowKit

section
variable {P : Program} {ops : Array Oper} {Q : Exit → Act → World → Prop} {md : Region.Mode} {S : World → Prop} {z : Nat}
/-- Whatever order is picked from here on; S holds behind every operation as long as number z has not come up. -/
def wpAnyZ (P : Program) (md : Region.Mode) (ops : Array Oper) (Q : Exit → Act → World → Prop) (S : World → Prop) (z : Nat) : Nat → Array Bool → Act → World → Prop
  | 0, listed, a, w => Region.ready md ops listed = [] ∧ Q .normal a w
  | fuel + 1, listed, a, w =>
    (Region.ready md ops listed = [] → Q .normal a w) ∧
    ∀ i ∈ Region.ready md ops listed, wpOp P ops Q i (fun a' w' => ((listed.setIfInBounds i true).getD z true = false → S w') ∧ wpAnyZ P md ops Q S z fuel (listed.setIfInBounds i true) a' w') a w
theorem wpAny_of_Z : ∀ (fuel : Nat) (listed : Array Bool) (a : Act) (w : World), wpAnyZ P md ops Q S z fuel listed a w → wpAny P md ops Q fuel listed a w
  | 0, _, _, _, h => h
  | fuel + 1, _, _, _, h => ⟨h.1, fun i hi => wpOp_mono (fun a' w' h' => wpAny_of_Z fuel _ a' w' h'.2) (h.2 i hi)⟩
theorem Z_of_H : ∀ (fuel : Nat) (listed : Array Bool) (a : Act) (w : World), listed.getD z true = true → wpAnyH P md ops Q (fun _ => True) fuel listed a w → wpAnyZ P md ops Q S z fuel listed a w
  | 0, _, _, _, _, h => h
  | fuel + 1, listed, a, w, hz, h => ⟨h.1, fun i hi => wpOp_mono (fun a' w' h' => by
      have hz' : (listed.setIfInBounds i true).getD z true = true := by
        by_cases e : i = z
        · subst e
          by_cases hl : i < listed.size
          · simp [hl]
          · simp [Array.getElem?_eq_none (Nat.le_of_not_lt hl)]
        · rw [getD_set_ne true e]; exact hz
      exact ⟨fun e => (by rw [hz'] at e; cases e), Z_of_H fuel _ a' w' hz' h'.2⟩) (h.2 i hi)⟩
theorem wpAnyZ_first {i : Nat} {oi : Oper} {v : Value} (hi : ops[i]? = some oi) (hsel : ∀ (j : Nat) (o : Oper) cs b, ops[j]? = some o → o.op ≠ .select cs b)
    (hQ : ∀ c a w, Q (.panic c) (a.put oi.dst v) w → Q (.panic c) a w) (hz : ∃ oz, ops[z]? = some oz ∧ ∃ e ∈ oz.after, Region.binds md e = true ∧ e.on = i) :
    ∀ (fuel : Nat) (listed : Array Bool) (a : Act) (w : World), listed.getD z true = false →
      (∀ j oj, ops[j]? = some oj → j ≠ i → listed.getD j true = false → (∀ e ∈ oj.after, Region.binds md e = true → e.on ≠ i) → oi.apart ops oj = true) →
      i ∈ Region.ready md ops listed → YieldsIf P ops S oi v a → S w →
      wpAnyZ P md ops Q S z fuel (listed.setIfInBounds i true) (a.put oi.dst v) w → wpAnyZ P md ops Q S z (fuel + 1) listed a w := by
  intro fuel
  induction fuel with
  | zero =>
    intro listed a w _ _ hr hy hS H
    refine ⟨fun h => (by rw [h] at hr; cases hr), fun j hj => ?_⟩
    by_cases hji : j = i
    · subst hji; exact hy.wpOp hi hS ⟨fun _ => hS, H⟩
    · have := ready_mono hj hji
      rw [H.1] at this
      cases this
  | succ fuel ih =>
    intro listed a w hzl hfree hr hy hS H
    refine ⟨fun h => (by rw [h] at hr; cases hr), fun j hj => ?_⟩
    by_cases hji : j = i
    · subst hji; exact hy.wpOp hi hS ⟨fun _ => hS, H⟩
    · have h1 := H.2 j (ready_mono hj hji)
      obtain ⟨hjun, oj, hoj, hall⟩ := mem_ready.1 hj
      have hnot : ∀ e ∈ oj.after, Region.binds md e = true → e.on ≠ i := fun e he hb heq => by
        have h1 := hall e he hb
        have h0 := (mem_ready.1 hr).1
        rw [heq] at h1
        rcases Nat.lt_or_ge i listed.size with h' | h'
        · simp [h'] at h0 h1; rw [h0] at h1; cases h1
        · simp [Array.getElem?_eq_none h'] at h1
      obtain ⟨oz, hoz, ez, hez, hbz, honz⟩ := hz
      have hjz : j ≠ z := fun e => by
        subst e
        rw [hoj] at hoz
        cases hoz
        exact hnot ez hez hbz honz
      have hiz : i ≠ z := fun e => by
        subst e
        obtain ⟨h0, o', ho', hall'⟩ := mem_ready.1 hr
        rw [hoz] at ho'
        cases ho'
        have h1 := hall' ez hez hbz
        rw [honz] at h1
        rcases Nat.lt_or_ge i listed.size with h' | h'
        · simp [h'] at h0 h1; rw [h0] at h1; cases h1
        · simp [Array.getElem?_eq_none h'] at h1
      have hzl' : (listed.setIfInBounds j true).getD z true = false := by rw [getD_set_ne true hjz]; exact hzl
      have hzl2 : ((listed.setIfInBounds i true).setIfInBounds j true).getD z true = false := by rw [getD_set_ne true hjz, getD_set_ne true hiz]; exact hzl
      have h2 := wpOp_putIf hoj (hfree j oj hoj hji hjun hnot) (fun cs b => hsel i oi cs b hi) (fun cs b => hsel j oj cs b hoj) hQ hy h1
      have hfree' : ∀ k ok, ops[k]? = some ok → k ≠ i → (listed.setIfInBounds j true).getD k true = false →
          (∀ e ∈ ok.after, Region.binds md e = true → e.on ≠ i) → oi.apart ops ok = true := fun k ok hk hki hun hno => by
        refine hfree k ok hk hki ?_ hno
        by_cases hjk : j = k
        · subst hjk; exact hjun
        · rw [getD_set_ne true hjk] at hun; exact hun
      refine wpOp_mono (fun a' w' h3 => ⟨fun _ => h3.2.1 hzl2, ih (listed.setIfInBounds j true) a' w' hzl' hfree' (ready_mono hr (Ne.symm hji)) h3.1 (h3.2.1 hzl2) ?_⟩) h2
      rw [Array.setIfInBounds_comm _ _ hji]
      exact h3.2.2
end

def waits (ops : Array Oper) (z i : Nat) : Bool := match ops[z]? with
  | some o => o.after.toList.any fun e => Region.binds .any e && Nat.beq e.on i
  | none => false
def planZ (ops : Array Oper) (z : Nat) : List (Nat × Bool) → Array Bool → Bool
  | [], _ => false
  | (i, q) :: r, listed => if Nat.beq i z then (Region.ready .any ops listed == [z]) && planB ops r (listed.setIfInBounds z true)
    else !(listed.getD z true) && (if q then (Region.ready .any ops listed).contains i && Region.free .any ops listed i && waits ops z i && planZ ops z r (listed.setIfInBounds i true)
    else (Region.ready .any ops listed == [i]) && planZ ops z r (listed.setIfInBounds i true))
def PZ (P : Program) (n : Nat) (ops : Array Oper) (Q : Post) (S : World → Prop) (z : Nat) : List (Nat × Bool) → Env → World → Prop
  | [], _, _ => False
  | (i, q) :: r, L, w => ∃ o, ops[i]? = some o ∧
    ((i = z ∧ PWant ops L o = some true ∧ EvM P L o.op o.type w (fun v w' => (∀ d, o.dst = some d → Nat.blt d n = true ∧ PW P n ops Q (fun _ => True) r ((d, v) :: L) w') ∧ (o.dst = none → PW P n ops Q (fun _ => True) r L w'))) ∨
     (i ≠ z ∧ q = true ∧ ∃ d v, o.dst = some d ∧ Nat.blt d n = true ∧ ((PWant ops L o = some true ∧ ∀ w', S w' → EvR P L o.op o.type w' v) ∨ (PWant ops L o = some false ∧ v = undef)) ∧ PZ P n ops Q S z r ((d, v) :: L) w) ∨
     (i ≠ z ∧ q = false ∧ ((PWant ops L o = some true ∧ EvM P L o.op o.type w (fun v w' => S w' ∧ (∀ d, o.dst = some d → Nat.blt d n = true ∧ PZ P n ops Q S z r ((d, v) :: L) w') ∧ (o.dst = none → PZ P n ops Q S z r L w'))) ∨
       (PWant ops L o = some false ∧ ∃ d, o.dst = some d ∧ Nat.blt d n = true ∧ PZ P n ops Q S z r ((d, undef) :: L) w))))
theorem wpAnyZ_of_plan {P : Program} {n : Nat} {ops : Array Oper} {Q : Post} {S : World → Prop} {z : Nat} (hs : Region.noSelect ops = true) :
    ∀ (plan : List (Nat × Bool)) (listed : Array Bool) (L : Env) (a : Act) (w : World), planZ ops z plan listed = true → S w → Sat n a L →
      PZ P n ops Q S z plan L w → wpAnyZ P .any ops (up n Q) S z plan.length listed a w := by
  intro plan
  induction plan with
  | nil => intro listed L a w hp; cases hp
  | cons x r ih =>
    obtain ⟨i, q⟩ := x
    intro listed L a w hp hS ha h
    unfold planZ at hp
    obtain ⟨o, ho, h⟩ := h
    rcases h with ⟨hiz, hw, hv⟩ | ⟨hiz, rfl, d, v, hd, hdn, hv, hk⟩ | ⟨hiz, rfl, hv⟩
    · subst hiz
      rw [if_pos (Nat.beq_refl i)] at hp
      simp only [Bool.and_eq_true, beq_iff_eq] at hp
      refine ⟨fun h0 => (by rw [hp.1] at h0; cases h0), fun i' hi' => ?_⟩
      rw [hp.1] at hi'
      have : i' = i := by simpa using hi'
      subst this
      have hl : (listed.setIfInBounds i' true).getD i' true = true := by
        by_cases hl : i' < listed.size
        · simp [hl]
        · simp [Array.getElem?_eq_none (Nat.le_of_not_lt hl)]
      unfold wpOp
      simp only [ho]
      rw [if_pos (wanted_of_PWant ha hw)]
      refine .inl (Oper.wp_of_ok (hv a.eval ha.ev o.dst o.pos o.after o.guard) ?_)
      intro v w' hn
      refine ⟨fun e => (by rw [hl] at e; cases e), Z_of_H _ _ _ _ hl ?_⟩
      cases hd : o.dst with
      | none => exact wpAnyH_of_plan hs r _ _ _ _ hp.2 trivial ha (hn.2 hd)
      | some d => exact wpAnyH_of_plan hs r _ _ _ _ hp.2 trivial (ha.put (hn.1 d hd).1 v) (hn.1 d hd).2
    · rw [if_neg (fun e => hiz (Nat.eq_of_beq_eq_true e))] at hp
      simp only [if_true, Bool.and_eq_true, Bool.not_eq_true'] at hp
      obtain ⟨hzl, ⟨⟨hp1, hp2⟩, hp3⟩, hp4⟩ := hp
      have hwz : ∃ oz, ops[z]? = some oz ∧ ∃ e ∈ oz.after, Region.binds .any e = true ∧ e.on = i := by
        unfold waits at hp3
        split at hp3
        · rename_i oz hoz
          obtain ⟨e, he, hb⟩ := List.any_eq_true.1 hp3
          simp only [Bool.and_eq_true] at hb
          exact ⟨oz, hoz, e, Array.mem_toList_iff.1 he, hb.1, Nat.eq_of_beq_eq_true hb.2⟩
        · cases hp3
      refine wpAnyZ_first (v := v) ho (Region.noSelect_spec hs) (fun c a w h => h.elim) hwz r.length listed a w hzl (Region.free_spec ho hp2) (by simpa using hp1) ?_ hS ?_
      · rcases hv with ⟨hw, hv⟩ | ⟨hw, hv⟩
        · refine .inl ⟨wanted_of_PWant ha hw, fun w' hw' => ?_⟩
          have := hv w' hw' a.eval ha.ev o.dst o.pos o.after o.guard
          exact this
        · exact .inr ⟨wanted_of_PWant ha hw, hv⟩
      · rw [hd]
        exact ih _ _ _ _ hp4 hS (ha.put hdn v) hk
    · rw [if_neg (fun e => hiz (Nat.eq_of_beq_eq_true e))] at hp
      simp only [Bool.false_eq_true, if_false, Bool.and_eq_true, Bool.not_eq_true', beq_iff_eq] at hp
      obtain ⟨hzl, hp1, hp4⟩ := hp
      refine ⟨fun h0 => (by rw [hp1] at h0; cases h0), fun i' hi' => ?_⟩
      rw [hp1] at hi'
      have : i' = i := by simpa using hi'
      subst this
      unfold wpOp
      simp only [ho]
      rcases hv with ⟨hw, hv⟩ | ⟨hw, d, hd, hdn, hk⟩
      · rw [if_pos (wanted_of_PWant ha hw)]
        refine .inl (Oper.wp_of_ok (hv a.eval ha.ev o.dst o.pos o.after o.guard) ?_)
        intro v w' hn
        refine ⟨fun _ => hn.1, ?_⟩
        cases hd : o.dst with
        | none => exact ih _ _ _ _ hp4 hn.1 ha (hn.2.2 hd)
        | some d => exact ih _ _ _ _ hp4 hn.1 (ha.put (hn.2.1 d hd).1 v) (hn.2.1 d hd).2
      · rw [if_neg (by rw [wanted_of_PWant ha hw]; simp), hd]
        exact ⟨fun _ => hS, ih _ _ _ _ hp4 hS (ha.put hdn undef) hk⟩

section
variable {P : Program} {n : Nat} {Q : Post} {L : Env} {w : World} {ops : Array Oper} {op : Op} {ty : TypeId} {pos : String} {aft : Array Edge} {d i z : Nat} {v : Value} {S : World → Prop} {r : List (Nat × Bool)} {g : Option (Nat × Bool)} {N : Value → World → Prop}
/-- The rule: the world's blocks from lo on below hi, and not from p on below q, may turn up to act z. -/
theorem W_drawZ {id : Nat} (z lo hi p q : Nat) (X : World → Prop) (plan : List (Nat × Bool)) (hm : P.follows .mixedOrders = true) (hs : Region.noSelect ops = true) (hl : plan.length = ops.size)
    (hp : planZ ops z plan (Array.replicate ops.size false) = true) (hX : ∀ wd, Ext w wd → X wd) (h : ∀ wd, Ext w wd → wd.heap.size = w.heap.size → PZ P n ops Q (fun w' => Rg lo hi p q wd w' ∧ X w') z plan L wd) : W P n (.region id ops true) Q L w := fun a ha =>
  wp_region_any hm (wpAny_of_Z (S := fun w' => Rg lo hi p q (drewW w) w' ∧ X w') (z := z) _ _ _ _ (by
    have := wpAnyZ_of_plan (P := P) (n := n) (Q := Q) (S := fun w' => Rg lo hi p q (drewW w) w' ∧ X w') (z := z) hs plan _ L a _ hp ⟨Rg.refl, hX _ (Ext.drew w)⟩ ha (h _ (Ext.drew w) rfl)
    rw [hl] at this; exact this))
theorem W_drawR {id : Nat} (lo hi p q : Nat) (X : World → Prop) (plan : List (Nat × Bool)) (hm : P.follows .mixedOrders = true) (hs : Region.noSelect ops = true) (hl : plan.length = ops.size)
    (hp : planB ops plan (Array.replicate ops.size false) = true) (hX : ∀ wd, Ext w wd → X wd) (h : ∀ wd, Ext w wd → wd.heap.size = w.heap.size → PW P n ops Q (fun w' => Rg lo hi p q wd w' ∧ X w') plan L wd) : W P n (.region id ops true) Q L w :=
  W_draw (fun w' => Rg lo hi p q (drewW w) w' ∧ X w') plan hm hs hl hp ⟨Rg.refl, hX _ (Ext.drew w)⟩ (h _ (Ext.drew w) rfl)
theorem PZ_q (hz : Nat.beq i z = false) (ho : ops[i]? = some ⟨some d, op, ty, pos, aft, none⟩) (hd : Nat.blt d n = true) (h : ∀ w', S w' → EvR P L op ty w' v) (k : PZ P n ops Q S z r ((d, v) :: L) w) : PZ P n ops Q S z ((i, true) :: r) L w :=
  ⟨_, ho, .inr (.inl ⟨Nat.ne_of_beq_eq_false hz, rfl, d, v, rfl, hd, .inl ⟨rfl, h⟩, k⟩)⟩
theorem PZ_qg {j t : Nat} {b c : Bool} (hz : Nat.beq i z = false) (ho : ops[i]? = some ⟨some d, op, ty, pos, aft, some (j, b)⟩) (hj : (ops[j]?).bind (·.dst) = some t) (hv : lk L t = some (.bool c)) (hc : c = b) (hd : Nat.blt d n = true) (h : ∀ w', S w' → EvR P L op ty w' v)
    (k : PZ P n ops Q S z r ((d, v) :: L) w) : PZ P n ops Q S z ((i, true) :: r) L w := ⟨_, ho, .inr (.inl ⟨Nat.ne_of_beq_eq_false hz, rfl, d, v, rfl, hd, .inl ⟨PWant_yes rfl hj hv hc, h⟩, k⟩)⟩
theorem PZ_no {q : Bool} {j t : Nat} {b c : Bool} (hz : Nat.beq i z = false) (ho : ops[i]? = some ⟨some d, op, ty, pos, aft, some (j, b)⟩) (hj : (ops[j]?).bind (·.dst) = some t) (hv : lk L t = some (.bool c)) (hc : c = !b) (hd : Nat.blt d n = true)
    (k : PZ P n ops Q S z r ((d, undef) :: L) w) : PZ P n ops Q S z ((i, q) :: r) L w := by
  cases q
  · exact ⟨_, ho, .inr (.inr ⟨Nat.ne_of_beq_eq_false hz, rfl, .inr ⟨PWant_no rfl hj hv hc, d, rfl, hd, k⟩⟩)⟩
  · exact ⟨_, ho, .inr (.inl ⟨Nat.ne_of_beq_eq_false hz, rfl, d, undef, rfl, hd, .inr ⟨PWant_no rfl hj hv hc, rfl⟩, k⟩)⟩
theorem PZ_m (hz : Nat.beq i z = false) (ho : ops[i]? = some ⟨some d, op, ty, pos, aft, none⟩) (hd : Nat.blt d n = true) (h : EvM P L op ty w N) (k : ∀ v w', N v w' → S w' ∧ PZ P n ops Q S z r ((d, v) :: L) w') : PZ P n ops Q S z ((i, false) :: r) L w :=
  ⟨_, ho, .inr (.inr ⟨Nat.ne_of_beq_eq_false hz, rfl, .inl ⟨rfl, h.mono fun v w' hn => ⟨(k v w' hn).1, fun d' hd' => by cases hd'; exact ⟨hd, (k v w' hn).2⟩, fun h => by cases h⟩⟩⟩)⟩
theorem PZ_s (hz : Nat.beq i z = false) (ho : ops[i]? = some ⟨none, op, ty, pos, aft, none⟩) (h : EvM P L op ty w N) (k : ∀ v w', N v w' → S w' ∧ PZ P n ops Q S z r L w') : PZ P n ops Q S z ((i, false) :: r) L w :=
  ⟨_, ho, .inr (.inr ⟨Nat.ne_of_beq_eq_false hz, rfl, .inl ⟨rfl, h.mono fun v w' hn => ⟨(k v w' hn).1, fun d' hd' => (by cases hd'), fun _ => (k v w' hn).2⟩⟩⟩)⟩
/-- Act z itself: a store. -/
theorem PZ_z {q : Bool} (ho : ops[z]? = some ⟨none, op, ty, pos, aft, none⟩) (h : EvM P L op ty w N) (k : ∀ v w', N v w' → PW P n ops Q (fun _ => True) r L w') : PZ P n ops Q S z ((z, q) :: r) L w :=
  ⟨_, ho, .inl ⟨rfl, rfl, h.mono fun v w' hn => ⟨fun d' hd' => (by cases hd'), fun _ => k v w' hn⟩⟩⟩
theorem PZ_zm {q : Bool} (ho : ops[z]? = some ⟨some d, op, ty, pos, aft, none⟩) (hd : Nat.blt d n = true) (h : EvM P L op ty w N) (k : ∀ v w', N v w' → PW P n ops Q (fun _ => True) r ((d, v) :: L) w') : PZ P n ops Q S z ((z, q) :: r) L w :=
  ⟨_, ho, .inl ⟨rfl, rfl, h.mono fun v w' hn => ⟨fun d' hd' => (by cases hd'; exact ⟨hd, k v w' hn⟩), fun h => (by cases h)⟩⟩⟩
theorem PZ_splitv {t : Nat} {b : Bool} (_hv : lk L t = some (.bool b)) (ht : b = true → PZ P n ops Q S z r L w) (hf : b = false → PZ P n ops Q S z r L w) : PZ P n ops Q S z r L w := by
  cases b
  · exact hf rfl
  · exact ht rfl
end
theorem Rg.cell' {l r p q g i : Nat} {w w' : World} {v : Value} (k : Rg l r p q w w') (hc : w.cell? ⟨g, i, none⟩ = some v) (hb : g < l ∨ r ≤ g ∨ (p ≤ g ∧ g < q)) : w'.cell? ⟨g, i, none⟩ = some v := (Keep.cell k (p := ⟨g, i, none⟩) ⟨World.block_lt_of_cell? w _ hc, hb⟩).trans hc
theorem KX.cell' {b g i : Nat} {w w' : World} {v : Value} (h : KX b w w') (hc : w.cell? ⟨g, i, none⟩ = some v) (hb : g ≠ b) : w'.cell? ⟨g, i, none⟩ = some v := h.cellB hc hb
theorem Nest.rng {α β : Type} {sz lo hi : Nat} {cells : Option Addr × Nat → β → List Value} {inner : β → List α} {R : Nat → Nat → World → Option Addr → Nat → List α → Prop} {w : World} {a : Option Addr} {c : Nat} {xs : List β} (h : Nest sz cells inner R lo hi w a c xs) (hn : 0 < xs.length) (hs : 0 < sz := by decide) : lo ≤ blkOf a ∧ blkOf a < hi := by
  obtain ⟨vs, hl, h1, _⟩ := h
  have hlen : 0 < (((vs.zip xs).map fun p => cells p.1 p.2).flatten).length := by
    rw [flat_len h1.len]
    refine Nat.mul_pos ?_ hs
    simp [hl]; exact hn
  obtain ⟨b, off, ha, h2, h3, _⟩ := h1.sat.at hlen
  subst ha
  exact ⟨h2, h3⟩
end Go.Proofs.YtdpdjbfjjlpfgaaGreatDoor
