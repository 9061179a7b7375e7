/- The rules of a walk over the kit's Code.wp: what a frame is known to hold is a list of slots; panics are excluded; a region that draws its order goes by a plan. No condition. -/
import Derived.OrdersHeld
import Derived.Deep.LoopGhost
import Derived.WalkKit
import Derived.Below
namespace Go.Proofs.YtdpdjbfjjlpfgaaGreatDoor
open Go Go.RowKit

/-! ### What is known of a frame -/
abbrev Env := List (Nat × Value)

def lk : Env → Nat → Option Value
  | [], _ => none
  | (s, v) :: r, t => bif Nat.beq s t then some v else lk r t

def ev (L : Env) : Operand → Option Value
  | .tmp t => lk L t
  | .const v => some v
  | .global g => some (.pointer (some ⟨g, 0, none⟩))
  | .func f => some (.func (.func f) #[] #[])

structure Sat (n : Nat) (a : Act) (L : Env) : Prop where
  size : a.tmps.size = n
  defers : a.defers = []
  get : ∀ t v, lk L t = some v → a.tmps[t]? = some v

theorem Sat.ev {n : Nat} {a : Act} {L : Env} (h : Sat n a L) (x : Operand) (v : Value) (hx : ev L x = some v) : a.eval x = v := by
  cases x with
  | tmp t =>
    have := h.get t v hx
    simp [Act.eval, this]
  | const u => simp [Go.Proofs.YtdpdjbfjjlpfgaaGreatDoor.ev] at hx; simp [Act.eval, hx]
  | global g => simp [Go.Proofs.YtdpdjbfjjlpfgaaGreatDoor.ev] at hx; simp [Act.eval, hx]
  | func f => simp [Go.Proofs.YtdpdjbfjjlpfgaaGreatDoor.ev] at hx; simp [Act.eval, hx]

theorem Sat.put {n : Nat} {a : Act} {L : Env} (h : Sat n a L) {d : Nat} (hd : Nat.blt d n = true) (v : Value) : Sat n (a.put (some d) v) ((d, v) :: L) := by
  have hlt : d < n := Nat.le_of_ble_eq_true hd
  refine ⟨by simp [Act.put, h.size], h.defers, ?_⟩
  intro t u ht
  simp only [lk] at ht
  simp only [Act.put]
  cases hb : Nat.beq d t with
  | true =>
    rw [hb] at ht
    have : d = t := Nat.eq_of_beq_eq_true hb
    subst this
    simp only [cond_true, Option.some.injEq] at ht
    subst ht
    rw [Array.getElem?_setIfInBounds, if_pos rfl, if_pos (by rw [h.size]; exact hlt)]
  | false =>
    rw [hb] at ht
    have hne : d ≠ t := Nat.ne_of_beq_eq_false hb
    rw [Array.getElem?_setIfInBounds, if_neg hne]
    exact h.get t u (by simpa using ht)

theorem Sat.put_none {n : Nat} {a : Act} {L : Env} (h : Sat n a L) (v : Value) : Sat n (a.put none v) L := h

def Subs : Env → Env → Prop
  | [], _ => True
  | (t, v) :: r, L => lk L t = some v ∧ Subs r L

theorem Subs.lkAll {L' L : Env} (h : Subs L' L) : ∀ t v, lk L' t = some v → lk L t = some v := by
  induction L' with
  | nil => intro t v ht; simp [lk] at ht
  | cons p r ih =>
    obtain ⟨s, u⟩ := p
    intro t v ht
    simp only [lk] at ht
    cases hb : Nat.beq s t with
    | true =>
      rw [hb] at ht
      have : s = t := Nat.eq_of_beq_eq_true hb
      subst this
      simp only [cond_true, Option.some.injEq] at ht
      subst ht
      exact h.1
    | false =>
      rw [hb] at ht
      exact ih h.2 t v (by simpa using ht)

theorem Sat.sub {n : Nat} {a : Act} {L L' : Env} (h : Sat n a L) (hs : Subs L' L) : Sat n a L' := ⟨h.size, h.defers, fun t v ht => h.get t v (hs.lkAll t v ht)⟩

/-! ### Code -/
abbrev Post := Exit → Env → World → Prop

def up (n : Nat) (Q : Post) : Exit → Act → World → Prop
  | .panic _, _, _ => False
  | .outgrown, _, _ => False
  | e, a, w => ∃ L, Sat n a L ∧ Q e L w

def W (P : Program) (n : Nat) (c : Code) (Q : Post) (L : Env) (w : World) : Prop := ∀ a, Sat n a L → c.wp P (up n Q) a w

def thenE (N : Env → World → Prop) (Q : Post) : Post
  | .normal, L, w => N L w
  | e, L, w => Q e L w

def blockE (id : Nat) (Q : Post) : Post
  | .exit i, L, w => bif Nat.beq i id then Q .normal L w else Q (.exit i) L w
  | e, L, w => Q e L w

section
variable {N : Env → World → Prop} {Q : Post} {L : Env} {w : World} {i id : Nat}
theorem thenE_n (h : N L w) : thenE N Q .normal L w := h
theorem thenE_x (h : Q (.exit i) L w) : thenE N Q (.exit i) L w := h
theorem thenE_r (h : Q .ret L w) : thenE N Q .ret L w := h
theorem blockE_n (h : Q .normal L w) : blockE id Q .normal L w := h
theorem blockE_r (h : Q .ret L w) : blockE id Q .ret L w := h
theorem blockE_hit (h : Q .normal L w) : blockE id Q (.exit id) L w := by
  have : Nat.beq id id = true := by simp
  simp only [blockE, this, cond_true]
  exact h
theorem blockE_x (hi : Nat.beq i id = false) (h : Q (.exit i) L w) : blockE id Q (.exit i) L w := by
  simp only [blockE, hi, cond_false]
  exact h
end

theorem Subs.n {L : Env} : Subs [] L := trivial
theorem Subs.c {t : Nat} {v : Value} {r L : Env} (h : lk L t = some v) (k : Subs r L) : Subs ((t, v) :: r) L := ⟨h, k⟩
theorem Subs.app {A B L : Env} (h : Subs A L) (k : Subs B L) : Subs (A ++ B) L := by
  induction A with
  | nil => exact k
  | cons p r ih => exact ⟨h.1, ih h.2⟩

section
variable {P : Program} {n : Nat} {Q : Post} {L : Env} {w : World}

theorem W_weak {c : Code} (L' : Env) (h : Subs L' L) (k : W P n c Q L' w) : W P n c Q L w := fun a ha => k a (ha.sub h)

theorem W_mono {c : Code} {Q' : Post} (hq : ∀ e L w, Q e L w → Q' e L w) (k : W P n c Q L w) : W P n c Q' L w := fun a ha =>
  wp_mono (k a ha) fun e a w h => by
    cases e <;> first | exact h.elim | (obtain ⟨L, hs, q⟩ := h; exact ⟨L, hs, hq _ _ _ q⟩)

theorem W_seq {x y : Code} (h : W P n x (thenE (W P n y Q) Q) L w) : W P n (.seq x y) Q L w := fun a ha =>
  wp_seq (wp_mono (h a ha) fun e a w q => by
    cases e <;> first
      | exact q.elim
      | (obtain ⟨L, hs, q⟩ := q; exact q a hs)
      | exact q)

/-- A piece of code, cut off by what holds behind it. -/
theorem W_cut {x y : Code} (N : Env → World → Prop) (h : W P n x (thenE N Q) L w) (k : ∀ L w, N L w → W P n y Q L w) : W P n (.seq x y) Q L w :=
  W_seq (W_mono (fun e L w q => by cases e <;> first | exact k _ _ q | exact q) h)

theorem W_skip (h : Q .normal L w) : W P n .skip Q L w := fun _ ha => wp_skip ⟨L, ha, h⟩
theorem W_ret (h : Q .ret L w) : W P n .ret Q L w := fun _ ha => wp_ret ⟨L, ha, h⟩
theorem W_exit {id : Nat} (h : Q (.exit id) L w) : W P n (.exit id) Q L w := fun _ ha => wp_exit ⟨L, ha, h⟩

theorem W_cond {c : Operand} {x y : Code} {b : Bool} (hc : ev L c = some (.bool b)) (ht : b = true → W P n x Q L w) (hf : b = false → W P n y Q L w) :
    W P n (.cond c x y) Q L w := fun a ha => wp_cond_split (ha.ev c _ hc) (fun h => ht h a ha) (fun h => hf h a ha)

theorem W_cond_t {c : Operand} {x y : Code} (hc : ev L c = some (.bool true)) (h : W P n x Q L w) : W P n (.cond c x y) Q L w :=
  fun a ha => wp_cond_true (ha.ev c _ hc) (h a ha)
theorem W_cond_f {c : Operand} {x y : Code} (hc : ev L c = some (.bool false)) (h : W P n y Q L w) : W P n (.cond c x y) Q L w :=
  fun a ha => wp_cond_false (ha.ev c _ hc) (h a ha)
theorem W_cond_d {c : Operand} {x y : Code} {p : Prop} [Decidable p] (hc : ev L c = some (.bool (decide p))) (ht : p → W P n x Q L w) (hf : ¬ p → W P n y Q L w) :
    W P n (.cond c x y) Q L w := W_cond hc (fun h => ht (of_decide_eq_true h)) (fun h => hf (of_decide_eq_false h))

theorem W_block {id : Nat} {c : Code} (h : W P n c (blockE id Q) L w) : W P n (.block id c) Q L w := fun a ha =>
  wp_block (wp_mono (h a ha) fun e a w q => by
    cases e with
    | exit i =>
      obtain ⟨L, hs, q⟩ := q
      simp only [blockE] at q
      simp only [Exit.inBlock]
      cases hb : Nat.beq i id with
      | true =>
        have : i = id := Nat.eq_of_beq_eq_true hb
        subst this
        rw [if_pos rfl]
        exact ⟨L, hs, by simpa using q⟩
      | false =>
        rw [if_neg (Nat.ne_of_beq_eq_false hb)]
        exact ⟨L, hs, by simpa [hb] using q⟩
    | _ => first | exact q.elim | exact q)

/-- A loop: 'g' is what a round hands on. -/
theorem W_loop {c : Code} {G : Type} (S : G → Env) (J : G → World → Prop) (μ : G → Nat) (g0 : G) (h0 : Subs (S g0) L) (hJ : J g0 w)
    (round : ∀ g w, J g w → W P n c (thenE (fun L' w' => ∃ g', Subs (S g') L' ∧ J g' w' ∧ μ g' < μ g) Q) (S g) w) : W P n (.loop c) Q L w := fun a ha =>
  wp_loop_ghost (fun m a w => ∃ g, μ g = m ∧ Sat n a (S g) ∧ J g w) (μ g0) ⟨g0, rfl, ha.sub h0, hJ⟩ fun m a w ⟨g, hm, hs, hj⟩ =>
    wp_mono (round g w hj a hs) fun e a w q => by
      cases e with
      | normal =>
        obtain ⟨L', hs', g', hsub, hj', hlt⟩ := q
        exact ⟨μ g', hm ▸ hlt, g', rfl, hs'.sub hsub, hj'⟩
      | _ => first | exact q.elim | exact q

/-- A loop; 'C': the slots that no round writes. -/
theorem W_loopC {c : Code} {G : Type} (C : Env) (hC : Subs C L) (S : G → Env) (J : G → World → Prop) (μ : G → Nat) (g0 : G) (h0 : Subs (S g0) L) (hJ : J g0 w)
    (round : ∀ g w, J g w → W P n c (thenE (fun L' w' => ∃ g', Subs C L' ∧ Subs (S g') L' ∧ J g' w' ∧ μ g' < μ g) Q) (S g ++ C) w) : W P n (.loop c) Q L w :=
  W_loop (fun g => S g ++ C) J μ g0 (h0.app hC) hJ fun g w hj => W_mono (fun e L w q => by
    cases e with
    | normal => obtain ⟨g', h1, h2, h3, h4⟩ := q; exact ⟨g', h2.app h1, h3, h4⟩
    | _ => exact q) (round g w hj)

/-- The ways through 'x' meet again. -/
theorem W_join {x y : Code} {G : Type} (C : Env) (_hC : Subs C L) (S : G → Env) (J : G → World → Prop)
    (h : W P n x (thenE (fun L' w' => ∃ g, Subs C L' ∧ Subs (S g) L' ∧ J g w') Q) L w) (k : ∀ g w, J g w → W P n y Q (S g ++ C) w) : W P n (.seq x y) Q L w :=
  W_cut _ h fun _ _ ⟨g, h1, h2, h3⟩ => W_weak (S g ++ C) (h2.app h1) (k g _ h3)
end

/-! ### Operations -/
/-- The operation yields a value (a call: its contract) that meets N. -/
def OpOk (P : Program) (N : Value → World → Prop) : Result Next → Prop
  | .ok (.value v) w' => N v w'
  | .ok .skip w' => N undef w'
  | .ok (.enter f args) w' => Calls P f args w' fun e w'' => ∃ v, e = .returned v ∧ N v w''
  | _ => False

theorem Oper.wp_of_ok {P : Program} {o : Oper} {a : Act} {w : World} {next : Act → World → Prop} {Q : Exit → Act → World → Prop} {N : Value → World → Prop}
    (h : OpOk P N ((execOp a.eval o).run P w)) (k : ∀ v w', N v w' → next (a.put o.dst v) w') : o.wp P a w next Q := by
  unfold Oper.wp
  generalize (execOp a.eval o).run P w = r at *
  cases r with
  | ok x w' =>
    cases x <;> simp only [OpOk] at h <;> simp only [Oper.upon]
    case value v => exact k v w' h
    case skip => exact k undef w' h
    case enter f args =>
      refine h.mono fun e w'' he => ?_
      obtain ⟨v, rfl, hn⟩ := he
      exact k v w'' hn
  | halt x w' => simp only [OpOk] at h

/-- The operation 'op', of type 'ty', in a frame that 'L' describes, in the world 'w'. -/
def EvM (P : Program) (L : Env) (op : Op) (ty : TypeId) (w : World) (N : Value → World → Prop) : Prop :=
  ∀ ρ : Operand → Value, (∀ x v, ev L x = some v → ρ x = v) → ∀ d p f g, OpOk P N ((execOp ρ ⟨d, op, ty, p, f, g⟩).run P w)

/-- It yields v and leaves the world alone. -/
def EvR (P : Program) (L : Env) (op : Op) (ty : TypeId) (w : World) (v : Value) : Prop :=
  ∀ ρ : Operand → Value, (∀ x v, ev L x = some v → ρ x = v) → ∀ d p f g, (execOp ρ ⟨d, op, ty, p, f, g⟩).run P w = .ok (.value v) w

theorem EvR.m {P : Program} {L : Env} {op : Op} {ty : TypeId} {w : World} {v : Value} (h : EvR P L op ty w v) : EvM P L op ty w (fun v' w' => v' = v ∧ w' = w) := by
  intro ρ hρ d p f g
  rw [h ρ hρ d p f g]
  exact ⟨rfl, rfl⟩

theorem EvM.mono {P : Program} {L : Env} {op : Op} {ty : TypeId} {w : World} {N N' : Value → World → Prop} (h : EvM P L op ty w N) (hn : ∀ v w', N v w' → N' v w') : EvM P L op ty w N' := by
  intro ρ hρ d p f g
  have := h ρ hρ d p f g
  generalize (execOp ρ ⟨d, op, ty, p, f, g⟩).run P w = r at *
  cases r with
  | ok x w' =>
    cases x <;> simp only [OpOk] at this ⊢
    case value => exact hn _ _ this
    case skip => exact hn _ _ this
    case enter f args => exact this.mono fun e w'' ⟨v, he, h⟩ => ⟨v, he, hn _ _ h⟩
  | halt x w' => exact this

def WL (P : Program) (n : Nat) (ops : Array Oper) (Q : Post) (l : List Oper) (L : Env) (w : World) : Prop := ∀ a, Sat n a L → wpList P ops (up n Q) l a w

section
variable {P : Program} {n : Nat} {Q : Post} {L : Env} {w : World} {ops : Array Oper} {rest : List Oper} {op : Op} {ty : TypeId} {pos : String} {aft : Array Edge} {d : Nat} {v : Value} {N : Value → World → Prop}

theorem W_region {id : Nat} {l : List Oper} (h : WL P n l.toArray Q l L w) : W P n (.region id l.toArray false) Q L w := fun a ha => wp_region_lit (h a ha)

theorem WL_nil (h : Q .normal L w) : WL P n ops Q [] L w := fun _ ha => ⟨L, ha, h⟩

theorem wanted_none {o : Oper} {y : Nat → Option Bool} (h : o.guard = none) : Region.wanted o y = true := by simp [Region.wanted, h]

theorem yielded_of {a : Act} (ha : Sat n a L) {j t : Nat} {b : Bool} (hj : (ops[j]?).bind (·.dst) = some t) (hv : lk L t = some (.bool b)) : yielded ops a.tmps j = some b := by
  simp [yielded, hj, ha.get t _ hv]

theorem wanted_yes {a : Act} (ha : Sat n a L) {o : Oper} {j t : Nat} {b : Bool} (hg : o.guard = some (j, b)) (hj : (ops[j]?).bind (·.dst) = some t) (hv : lk L t = some (.bool b)) :
    Region.wanted o (yielded ops a.tmps) = true := by simp [Region.wanted, hg, yielded_of ha hj hv]

theorem wanted_no {a : Act} (ha : Sat n a L) {o : Oper} {j t : Nat} {b c : Bool} (hg : o.guard = some (j, b)) (hj : (ops[j]?).bind (·.dst) = some t) (hv : lk L t = some (.bool c)) (hb : (c == b) = false) :
    Region.wanted o (yielded ops a.tmps) = false := by
  simp only [Region.wanted, hg, yielded_of ha hj hv]
  cases b <;> cases c <;> simp_all

theorem WL_m (hd : Nat.blt d n = true) (h : EvM P L op ty w N) (k : ∀ v w', N v w' → WL P n ops Q rest ((d, v) :: L) w') :
    WL P n ops Q (⟨some d, op, ty, pos, aft, none⟩ :: rest) L w := fun a ha => by
  unfold wpList
  rw [if_pos (wanted_none rfl)]
  exact .inl (Oper.wp_of_ok (h a.eval ha.ev _ _ _ _) fun v w' hn => k v w' hn _ (ha.put hd v))

theorem WL_mg {j t : Nat} {b c : Bool} (hj : (ops[j]?).bind (·.dst) = some t) (hv : lk L t = some (.bool c)) (hc : c = b) (hd : Nat.blt d n = true) (h : EvM P L op ty w N)
    (k : ∀ v w', N v w' → WL P n ops Q rest ((d, v) :: L) w') : WL P n ops Q (⟨some d, op, ty, pos, aft, some (j, b)⟩ :: rest) L w := fun a ha => by
  subst hc
  unfold wpList
  rw [if_pos (wanted_yes ha rfl hj hv)]
  exact .inl (Oper.wp_of_ok (h a.eval ha.ev _ _ _ _) fun v w' hn => k v w' hn _ (ha.put hd v))

/-- What leaves no result (a store). -/
theorem WL_s (h : EvM P L op ty w N) (k : ∀ v w', N v w' → WL P n ops Q rest L w') : WL P n ops Q (⟨none, op, ty, pos, aft, none⟩ :: rest) L w := fun a ha => by
  unfold wpList
  rw [if_pos (wanted_none rfl)]
  exact .inl (Oper.wp_of_ok (h a.eval ha.ev _ _ _ _) fun v w' hn => k v w' hn _ (ha.put_none v))

theorem WL_q (hd : Nat.blt d n = true) (h : EvR P L op ty w v) (k : WL P n ops Q rest ((d, v) :: L) w) : WL P n ops Q (⟨some d, op, ty, pos, aft, none⟩ :: rest) L w :=
  WL_m hd h.m fun _ _ ⟨h1, h2⟩ => by rw [h1, h2]; exact k

theorem WL_qg {j t : Nat} {b c : Bool} (hj : (ops[j]?).bind (·.dst) = some t) (hv : lk L t = some (.bool c)) (hc : c = b) (hd : Nat.blt d n = true) (h : EvR P L op ty w v)
    (k : WL P n ops Q rest ((d, v) :: L) w) : WL P n ops Q (⟨some d, op, ty, pos, aft, some (j, b)⟩ :: rest) L w :=
  WL_mg hj hv hc hd h.m fun _ _ ⟨h1, h2⟩ => by rw [h1, h2]; exact k

/-- The guard says no. -/
theorem WL_no {j t : Nat} {b c : Bool} (hj : (ops[j]?).bind (·.dst) = some t) (hv : lk L t = some (.bool c)) (hb : c = !b) (hd : Nat.blt d n = true)
    (k : WL P n ops Q rest ((d, undef) :: L) w) : WL P n ops Q (⟨some d, op, ty, pos, aft, some (j, b)⟩ :: rest) L w := fun a ha => by
  unfold wpList
  rw [if_neg (by rw [wanted_no ha rfl hj hv (by subst hb; cases b <;> rfl)]; simp)]
  exact k _ (ha.put hd undef)

/-- The guard was itself passed over. -/
theorem WL_nou {j t : Nat} {b : Bool} (hj : (ops[j]?).bind (·.dst) = some t) (hv : lk L t = some undef) (hd : Nat.blt d n = true)
    (k : WL P n ops Q rest ((d, undef) :: L) w) : WL P n ops Q (⟨some d, op, ty, pos, aft, some (j, b)⟩ :: rest) L w := fun a ha => by
  unfold wpList
  rw [if_neg (by simp [Region.wanted, yielded, hj, ha.get t _ hv, undef])]
  exact k _ (ha.put hd undef)

/-- The walk parts on a Bool. -/
theorem WL_splitv {l : List Oper} {t : Nat} {b : Bool} (_hv : lk L t = some (.bool b)) (ht : b = true → WL P n ops Q l L w) (hf : b = false → WL P n ops Q l L w) : WL P n ops Q l L w := by
  cases b
  · exact hf rfl
  · exact ht rfl
theorem WL_split {l : List Oper} (b : Bool) (ht : b = true → WL P n ops Q l L w) (hf : b = false → WL P n ops Q l L w) : WL P n ops Q l L w := by
  cases b
  · exact hf rfl
  · exact ht rfl

theorem WL_weak {l : List Oper} (L' : Env) (h : Subs L' L) (k : WL P n ops Q l L' w) : WL P n ops Q l L w := fun a ha => k a (ha.sub h)
end

/-! ### A region that draws its order: by a plan: (number, true): it only reads: taken first; (number, false): it acts, and nothing else may come up. -/
def planB (ops : Array Oper) : List (Nat × Bool) → Array Bool → Bool
  | [], listed => (Region.ready .any ops listed).isEmpty
  | (i, true) :: r, listed => (Region.ready .any ops listed).contains i && Region.free .any ops listed i && planB ops r (listed.setIfInBounds i true)
  | (i, false) :: r, listed => (Region.ready .any ops listed == [i]) && planB ops r (listed.setIfInBounds i true)

def PWant (ops : Array Oper) (L : Env) (o : Oper) : Option Bool :=
  match o.guard with
  | none => some true
  | some (j, b) => match ((ops[j]?).bind (·.dst)).bind (lk L) with
    | some (.bool c) => some (c == b)
    | some (.tuple _) => some false
    | _ => none

def PW (P : Program) (n : Nat) (ops : Array Oper) (Q : Post) (S : World → Prop) : List (Nat × Bool) → Env → World → Prop
  | [], L, w => Q .normal L w
  | (i, true) :: r, L, w => ∃ o d v, ops[i]? = some o ∧ o.dst = some d ∧ Nat.blt d n = true ∧
      ((PWant ops L o = some true ∧ ∀ w', S w' → EvR P L o.op o.type w' v) ∨ (PWant ops L o = some false ∧ v = undef)) ∧ PW P n ops Q S r ((d, v) :: L) w
  | (i, false) :: r, L, w => ∃ o, ops[i]? = some o ∧
      ((PWant ops L o = some true ∧ EvM P L o.op o.type w (fun v w' => S w' ∧ (∀ d, o.dst = some d → Nat.blt d n = true ∧ PW P n ops Q S r ((d, v) :: L) w') ∧ (o.dst = none → PW P n ops Q S r L w'))) ∨
       (PWant ops L o = some false ∧ ∃ d, o.dst = some d ∧ Nat.blt d n = true ∧ PW P n ops Q S r ((d, undef) :: L) w))

theorem wanted_of_PWant {n : Nat} {L : Env} {ops : Array Oper} {a : Act} (ha : Sat n a L) {o : Oper} {b : Bool} (h : PWant ops L o = some b) : Region.wanted o (yielded ops a.tmps) = b := by
  unfold PWant at h
  split at h
  · rename_i hg; simp at h; subst h; exact wanted_none hg
  · rename_i j c hg
    split at h
    · rename_i c' hv
      simp only [Option.some.injEq] at h
      obtain ⟨t, ht, hl⟩ := Option.bind_eq_some_iff.1 hv
      simp only [Region.wanted, hg, yielded_of ha ht hl]
      subst h
      cases c <;> cases c' <;> rfl
    · rename_i vs hv
      simp only [Option.some.injEq] at h
      subst h
      obtain ⟨t, ht, hl⟩ := Option.bind_eq_some_iff.1 hv
      simp [Region.wanted, hg, yielded, ht, ha.get t _ hl]
    · cases h

theorem wpAnyH_of_plan {P : Program} {n : Nat} {ops : Array Oper} {Q : Post} {S : World → Prop} (hs : Region.noSelect ops = true) :
    ∀ (plan : List (Nat × Bool)) (listed : Array Bool) (L : Env) (a : Act) (w : World), planB ops plan listed = true → S w → Sat n a L →
      PW P n ops Q S plan L w → wpAnyH P .any ops (up n Q) S plan.length listed a w := by
  intro plan
  induction plan with
  | nil =>
    intro listed L a w hp _ ha h
    exact wpAnyH_done (by simpa [planB] using hp) ⟨L, ha, h⟩ _
  | cons x r ih =>
    obtain ⟨i, q⟩ := x
    intro listed L a w hp hS ha h
    cases q with
    | true =>
      simp only [planB, Bool.and_eq_true] at hp
      obtain ⟨o, d, v, ho, hd, hdn, hv, hk⟩ := h
      refine wpAnyH_take (v := v) ho hs hp.1.2 hp.1.1 (fun c a w h => h.elim) ?_ hS ?_
      · rcases hv with ⟨hw, hv⟩ | ⟨hw, hv⟩
        · refine .inl ⟨wanted_of_PWant ha hw, fun w' hw' => ?_⟩
          have := hv w' hw' a.eval ha.ev o.dst o.pos o.after o.guard
          exact this
        · exact .inr ⟨wanted_of_PWant ha hw, hv⟩
      · rw [hd]
        exact ih _ _ _ _ hp.2 hS (ha.put hdn v) hk
    | false =>
      simp only [planB, Bool.and_eq_true, beq_iff_eq] at hp
      obtain ⟨o, ho, hv⟩ := h
      refine wpAnyH_all hp.1 (by simp) ?_
      intro i' hi'
      have : i' = i := by simpa using hi'
      subst this
      unfold wpOp
      simp only [ho]
      rcases hv with ⟨hw, hv⟩ | ⟨hw, d, hd, hdn, hk⟩
      · rw [if_pos (wanted_of_PWant ha hw)]
        refine .inl (Oper.wp_of_ok (hv a.eval ha.ev o.dst o.pos o.after o.guard) ?_)
        intro v w' hn
        refine ⟨hn.1, ?_⟩
        cases hd : o.dst with
        | none => exact ih _ _ _ _ hp.2 hn.1 ha (hn.2.2 hd)
        | some d => exact ih _ _ _ _ hp.2 hn.1 (ha.put (hn.2.1 d hd).1 v) (hn.2.1 d hd).2
      · rw [if_neg (by rw [wanted_of_PWant ha hw]; simp), hd]
        exact ⟨hS, ih _ _ _ _ hp.2 hS (ha.put hdn undef) hk⟩

section
variable {P : Program} {n : Nat} {Q : Post} {L : Env} {w : World} {ops : Array Oper} {op : Op} {ty : TypeId} {pos : String} {aft : Array Edge} {d i : Nat} {v : Value} {S : World → Prop} {r : List (Nat × Bool)} {g : Option (Nat × Bool)} {N : Value → World → Prop}

def drewW (w : World) : World := { w with drawn := w.drawn + 1 }

theorem W_draw {id : Nat} (S : World → Prop) (plan : List (Nat × Bool)) (hm : P.follows .mixedOrders = true) (hs : Region.noSelect ops = true) (hl : plan.length = ops.size)
    (hp : planB ops plan (Array.replicate ops.size false) = true) (hS : S (drewW w)) (h : PW P n ops Q S plan L (drewW w)) : W P n (.region id ops true) Q L w := fun a ha =>
  wp_region_held (S := S) hm (by have := wpAnyH_of_plan (P := P) (n := n) (Q := Q) (S := S) hs plan _ L a _ hp hS ha h; rw [hl] at this; exact this)

theorem PW_nil (h : Q .normal L w) : PW P n ops Q S [] L w := h

theorem PWant_yes {o : Oper} {j t : Nat} {b c : Bool} (hg : o.guard = some (j, b)) (hj : (ops[j]?).bind (·.dst) = some t) (hv : lk L t = some (.bool c)) (hc : c = b) : PWant ops L o = some true := by
  subst hc
  simp [PWant, hg, hj, hv]
theorem PWant_no {o : Oper} {j t : Nat} {b c : Bool} (hg : o.guard = some (j, b)) (hj : (ops[j]?).bind (·.dst) = some t) (hv : lk L t = some (.bool c)) (hc : c = !b) : PWant ops L o = some false := by
  subst hc
  simp only [PWant, hg, hj, Option.bind_some, hv]
  cases b <;> rfl

theorem PW_q (ho : ops[i]? = some ⟨some d, op, ty, pos, aft, none⟩) (hd : Nat.blt d n = true) (h : ∀ w', S w' → EvR P L op ty w' v)
    (k : PW P n ops Q S r ((d, v) :: L) w) : PW P n ops Q S ((i, true) :: r) L w := ⟨_, d, v, ho, rfl, hd, .inl ⟨rfl, h⟩, k⟩

theorem PW_qg {j t : Nat} {b c : Bool} (ho : ops[i]? = some ⟨some d, op, ty, pos, aft, some (j, b)⟩) (hj : (ops[j]?).bind (·.dst) = some t) (hv : lk L t = some (.bool c)) (hc : c = b) (hd : Nat.blt d n = true) (h : ∀ w', S w' → EvR P L op ty w' v)
    (k : PW P n ops Q S r ((d, v) :: L) w) : PW P n ops Q S ((i, true) :: r) L w := ⟨_, d, v, ho, rfl, hd, .inl ⟨PWant_yes rfl hj hv hc, h⟩, k⟩

theorem PW_no {q : Bool} {j t : Nat} {b c : Bool} (ho : ops[i]? = some ⟨some d, op, ty, pos, aft, some (j, b)⟩) (hj : (ops[j]?).bind (·.dst) = some t) (hv : lk L t = some (.bool c)) (hc : c = !b) (hd : Nat.blt d n = true)
    (k : PW P n ops Q S r ((d, undef) :: L) w) : PW P n ops Q S ((i, q) :: r) L w := by
  cases q
  · exact ⟨_, ho, .inr ⟨PWant_no rfl hj hv hc, d, rfl, hd, k⟩⟩
  · exact ⟨_, d, undef, ho, rfl, hd, .inr ⟨PWant_no rfl hj hv hc, rfl⟩, k⟩

theorem PW_nou {q : Bool} {j t : Nat} {b : Bool} (ho : ops[i]? = some ⟨some d, op, ty, pos, aft, some (j, b)⟩) (hj : (ops[j]?).bind (·.dst) = some t) (hv : lk L t = some undef) (hd : Nat.blt d n = true)
    (k : PW P n ops Q S r ((d, undef) :: L) w) : PW P n ops Q S ((i, q) :: r) L w := by
  have hw : PWant ops L ⟨some d, op, ty, pos, aft, some (j, b)⟩ = some false := by simp [PWant, hj, hv, undef]
  cases q
  · exact ⟨_, ho, .inr ⟨hw, d, rfl, hd, k⟩⟩
  · exact ⟨_, d, undef, ho, rfl, hd, .inr ⟨hw, rfl⟩, k⟩

theorem PW_mm (ho : ops[i]? = some ⟨some d, op, ty, pos, aft, g⟩) (hg : PWant ops L ⟨some d, op, ty, pos, aft, g⟩ = some true) (hd : Nat.blt d n = true) (h : EvM P L op ty w N)
    (k : ∀ v w', N v w' → S w' ∧ PW P n ops Q S r ((d, v) :: L) w') : PW P n ops Q S ((i, false) :: r) L w :=
  ⟨_, ho, .inl ⟨hg, h.mono fun v w' hn => ⟨(k v w' hn).1, fun d' hd' => by cases hd'; exact ⟨hd, (k v w' hn).2⟩, fun h => by cases h⟩⟩⟩

theorem PW_m (ho : ops[i]? = some ⟨some d, op, ty, pos, aft, none⟩) (hd : Nat.blt d n = true) (h : EvM P L op ty w N)
    (k : ∀ v w', N v w' → S w' ∧ PW P n ops Q S r ((d, v) :: L) w') : PW P n ops Q S ((i, false) :: r) L w := PW_mm ho rfl hd h k

theorem PW_mg {j t : Nat} {b c : Bool} (ho : ops[i]? = some ⟨some d, op, ty, pos, aft, some (j, b)⟩) (hj : (ops[j]?).bind (·.dst) = some t) (hv : lk L t = some (.bool c)) (hc : c = b) (hd : Nat.blt d n = true) (h : EvM P L op ty w N)
    (k : ∀ v w', N v w' → S w' ∧ PW P n ops Q S r ((d, v) :: L) w') : PW P n ops Q S ((i, false) :: r) L w := PW_mm ho (PWant_yes rfl hj hv hc) hd h k

theorem PW_s (ho : ops[i]? = some ⟨none, op, ty, pos, aft, none⟩) (h : EvM P L op ty w N)
    (k : ∀ v w', N v w' → S w' ∧ PW P n ops Q S r L w') : PW P n ops Q S ((i, false) :: r) L w :=
  ⟨_, ho, .inl ⟨rfl, h.mono fun v w' hn => ⟨(k v w' hn).1, fun d' hd' => (by cases hd'), fun _ => (k v w' hn).2⟩⟩⟩

theorem PW_splitv {t : Nat} {b : Bool} (_hv : lk L t = some (.bool b)) (ht : b = true → PW P n ops Q S r L w) (hf : b = false → PW P n ops Q S r L w) : PW P n ops Q S r L w := by
  cases b
  · exact hf rfl
  · exact ht rfl
end

/-! ### A function -/
def callable (P : Program) (f : FuncId) : Bool := match P.funcs[f]? with
  | some fn => !(fn.name == "runtime.NumGoroutine") && fn.body.isSome
  | none => false

/-- The call returns a value that meets R. -/
def Fn (P : Program) (f : FuncId) (args : Array Value) (w : World) (R : Value → World → Prop) : Prop := callable P f = true ∧ Calls P f args w fun e w' => ∃ v, e = .returned v ∧ R v w'

theorem Fn.mono {P : Program} {f : FuncId} {args : Array Value} {w : World} {R R' : Value → World → Prop} (h : Fn P f args w R) (k : ∀ v w', R v w' → R' v w') : Fn P f args w R' :=
  ⟨h.1, Calls.mono h.2 fun _ _ ⟨v, he, hr⟩ => ⟨v, he, k v _ hr⟩⟩

def argsE : List Value → Nat → Env
  | [], _ => []
  | v :: r, k => (k, v) :: argsE r (k + 1)

theorem lk_argsE (l : List Value) : ∀ (k t : Nat) (v : Value), lk (argsE l k) t = some v → k ≤ t ∧ l[t - k]? = some v := by
  induction l with
  | nil => intro k t v h; simp [argsE, lk] at h
  | cons x r ih =>
    intro k t v h
    simp only [argsE, lk] at h
    cases hb : Nat.beq k t with
    | true =>
      have : k = t := Nat.eq_of_beq_eq_true hb
      subst this
      rw [hb] at h
      simp only [cond_true, Option.some.injEq] at h
      subst h
      simp
    | false =>
      rw [hb] at h
      have hne : k ≠ t := Nat.ne_of_beq_eq_false hb
      obtain ⟨h1, h2⟩ := ih (k + 1) t v (by simpa using h)
      refine ⟨by omega, ?_⟩
      have : t - k = (t - (k + 1)) + 1 := by omega
      rw [this]
      simpa using h2

/-- What the results read as at the end. -/
def resE (P : Program) (fn : Func) (L : Env) (w : World) (v : Value) : Prop := ∀ tmps : Array Value, (∀ t u, lk L t = some u → tmps[t]? = some u) → (results fn tmps).run P w = .ok v w

def bodyE (P : Program) (fn : Func) (R : Value → World → Prop) : Post
  | .normal, L, w | .ret, L, w => ∃ v, resE P fn L w v ∧ R v w
  | _, _, _ => False

theorem Fn_of {P : Program} {f : FuncId} {fn : Func} {c : Code} {l : List Value} {w : World} {R : Value → World → Prop} {n : Nat} (hf : P.funcs[f]? = some fn) (hb : fn.body = some c)
    (hn : fn.ntmps = n) (hm : (fn.name == "runtime.NumGoroutine") = false) (hl : Nat.ble l.length n = true) (h : W P n c (bodyE P fn R) (argsE l 0) w) : Fn P f l.toArray w R := by
  refine ⟨by simp only [callable, hf, hm, hb]; rfl, calls_of_wp hf hb (wp_mono (h _ ?_) ?_)⟩
  · have hle : l.length ≤ n := by simpa using hl
    refine ⟨by simp [hn]; omega, rfl, ?_⟩
    intro t v ht
    obtain ⟨_, h2⟩ := lk_argsE l 0 t v ht
    have hlt : t < l.length := by
      rcases Nat.lt_or_ge t l.length with h | h
      · exact h
      · rw [List.getElem?_eq_none (by omega)] at h2; cases h2
    rw [Array.getElem?_append_left (by simpa using hlt)]
    simpa using h2
  · intro e a w' hq
    cases e with
    | normal => obtain ⟨L, hs, v, hr, hR⟩ := hq; exact ⟨hs.defers, v, hr a.tmps hs.get, v, rfl, hR⟩
    | ret => obtain ⟨L, hs, v, hr, hR⟩ := hq; exact ⟨hs.defers, v, hr a.tmps hs.get, v, rfl, hR⟩
    | exit i => obtain ⟨L, hs, hq⟩ := hq; exact hq.elim
    | goto i => obtain ⟨L, hs, hq⟩ := hq; exact hq.elim
    | panic c => exact hq.elim
    | outgrown => exact hq.elim

section
variable {P : Program} {fn : Func} {R : Value → World → Prop} {L : Env} {w : World} {v u x : Value} {t s q : Nat}
theorem getD_of {tmps : Array Value} (h : ∀ t u, lk L t = some u → tmps[t]? = some u) (hv : lk L t = some v) : tmps.getD t undef = v := by simp [h t v hv]

theorem ret1 (hr : fn.results = #[.tmp t]) (hv : lk L t = some v) (h : R v w) : bodyE P fn R .ret L w :=
  ⟨v, fun tmps ht => by rw [results_tmp hr, getD_of ht hv], h⟩
theorem ret2 (hr : fn.results = #[.tmp t, .tmp s]) (hv : lk L t = some v) (hu : lk L s = some u) (h : R (.tuple #[v, u]) w) : bodyE P fn R .ret L w :=
  ⟨_, fun tmps ht => by rw [results_tmp2 hr, getD_of ht hv, getD_of ht hu], h⟩
theorem ret3 (hr : fn.results = #[.tmp t, .tmp s, .tmp q]) (hv : lk L t = some v) (hu : lk L s = some u) (hx : lk L q = some x) (h : R (.tuple #[v, u, x]) w) : bodyE P fn R .ret L w :=
  ⟨_, fun tmps ht => by simp [results, hr, ht _ _ hv, ht _ _ hu, ht _ _ hx], h⟩
end
end Go.Proofs.YtdpdjbfjjlpfgaaGreatDoor
