/- One rule for each kind of operation that leaves the world alone, over any program. No condition beyond those that each rule states. -/
import Derived.Test.YtdpdjbfjjlpfgaaGreatDoorCore
namespace Go.Proofs.YtdpdjbfjjlpfgaaGreatDoor
open Go Go.RowKit

abbrev VI (n : Int) : Value := .int .i64 n
abbrev VB (b : Bool) : Value := .bool b
abbrev ptr (b off : Nat) : Value := .pointer (some ⟨b, off, none⟩)
abbrev I64 (n : Int) : Prop := -9223372036854775808 ≤ n ∧ n ≤ 9223372036854775807

theorem wrap_in {n : Int} (h : I64 n) : IntKind.i64.wrap n = n := IntWalk.i64_in n h

section
variable {P : Program} {L : Env} {ty T T' E : TypeId} {w : World} {x y z : Operand} {v u : Value} {m k : Int} {b c : Bool}

theorem ev_move (hx : ev L x = some v) : EvR P L (.move x) ty w v := by
  intro ρ hρ d p f g
  simp [execOp, hρ x v hx]

theorem ev_assign (hx : ev L x = some v) : EvR P L (.assign x) ty w v := by
  intro ρ hρ d p f g
  simp [execOp, hρ x v hx]

theorem ev_pick_t (hx : ev L x = some (VB b)) (hb : b = true) (hy : ev L y = some v) : EvR P L (.pick x y z) ty w v := by
  intro ρ hρ d p f g
  subst hb
  simp [execOp, hρ x _ hx, hρ y _ hy, asBool]

theorem ev_pick_f (hx : ev L x = some (VB b)) (hb : b = false) (hy : ev L z = some v) : EvR P L (.pick x y z) ty w v := by
  intro ρ hρ d p f g
  subst hb
  simp [execOp, hρ x _ hx, hρ z _ hy, asBool]

theorem ev_not (hx : ev L x = some (VB b)) : EvR P L (.unOp .not T x) ty w (VB (!b)) := by
  intro ρ hρ d p f g
  simp [execOp, hρ x _ hx, Op.unary]

theorem ev_neg (hx : ev L x = some (VI m)) (h : I64 (-m)) : EvR P L (.unOp .neg T x) ty w (VI (-m)) := by
  intro ρ hρ d p f g
  have : IntKind.i64.wrap (0 - m) = -m := by rw [Int.zero_sub]; exact wrap_in h
  simp [execOp, hρ x _ hx, Op.unary, Op.intArith] at this ⊢
  exact this

theorem ev_add (hx : ev L x = some (VI m)) (hy : ev L y = some (VI k)) (h : I64 (m + k)) : EvR P L (.binOp .add T x y T') ty w (VI (m + k)) := by
  intro ρ hρ d p f g
  simp [execOp, hρ x _ hx, hρ y _ hy, eqGuard, binOp, Op.intArith, wrap_in h]

theorem ev_sub (hx : ev L x = some (VI m)) (hy : ev L y = some (VI k)) (h : I64 (m - k)) : EvR P L (.binOp .sub T x y T') ty w (VI (m - k)) := by
  intro ρ hρ d p f g
  simp [execOp, hρ x _ hx, hρ y _ hy, eqGuard, binOp, Op.intArith, wrap_in h]

theorem ev_mul (hx : ev L x = some (VI m)) (hy : ev L y = some (VI k)) (h : I64 (m * k)) : EvR P L (.binOp .mul T x y T') ty w (VI (m * k)) := by
  intro ρ hρ d p f g
  simp [execOp, hρ x _ hx, hρ y _ hy, eqGuard, binOp, Op.intArith, wrap_in h]

theorem ev_lss (hx : ev L x = some (VI m)) (hy : ev L y = some (VI k)) : EvR P L (.binOp .lss T x y T') ty w (VB (decide (m < k))) := by
  intro ρ hρ d p f g
  simp [execOp, hρ x _ hx, hρ y _ hy, eqGuard, binOp, Op.intCmp]

theorem ev_leq (hx : ev L x = some (VI m)) (hy : ev L y = some (VI k)) : EvR P L (.binOp .leq T x y T') ty w (VB (decide (m ≤ k))) := by
  intro ρ hρ d p f g
  simp [execOp, hρ x _ hx, hρ y _ hy, eqGuard, binOp, Op.intCmp]

theorem ev_gtr (hx : ev L x = some (VI m)) (hy : ev L y = some (VI k)) : EvR P L (.binOp .gtr T x y T') ty w (VB (decide (k < m))) := by
  intro ρ hρ d p f g
  simp [execOp, hρ x _ hx, hρ y _ hy, eqGuard, binOp, Op.intCmp]

theorem ev_geq (hx : ev L x = some (VI m)) (hy : ev L y = some (VI k)) : EvR P L (.binOp .geq T x y T') ty w (VB (decide (k ≤ m))) := by
  intro ρ hρ d p f g
  simp [execOp, hρ x _ hx, hρ y _ hy, eqGuard, binOp, Op.intCmp]

theorem beq_dec (m k : Int) : (m == k) = decide (m = k) := by
  by_cases h : m = k <;> simp [h]

theorem ev_eql (hx : ev L x = some (VI m)) (hy : ev L y = some (VI k)) : EvR P L (.binOp .eql T x y T') ty w (VB (decide (m = k))) := by
  intro ρ hρ d p f g
  simp [execOp, hρ x _ hx, hρ y _ hy, eqGuard, binOp, Op.intCmp, beq_dec]

theorem ev_neq (hx : ev L x = some (VI m)) (hy : ev L y = some (VI k)) : EvR P L (.binOp .neq T x y T') ty w (VB (decide (m ≠ k))) := by
  intro ρ hρ d p f g
  simp [execOp, hρ x _ hx, hρ y _ hy, eqGuard, binOp, Op.intCmp, bne, beq_dec]

theorem ev_eql_b (ht : P.underlying T = some .bool) (hx : ev L x = some (VB b)) (hy : ev L y = some (VB c)) : EvR P L (.binOp .eql T x y T') ty w (VB (b == c)) := by
  intro ρ hρ d p f g
  simp [execOp, hρ x _ hx, hρ y _ hy, eqGuard, run_eql_bool, ht]

theorem ev_neq_b (ht : P.underlying T = some .bool) (hx : ev L x = some (VB b)) (hy : ev L y = some (VB c)) : EvR P L (.binOp .neq T x y T') ty w (VB (b != c)) := by
  intro ρ hρ d p f g
  simp [execOp, hρ x _ hx, hρ y _ hy, eqGuard, run_neq_bool, ht]
  cases b <;> cases c <;> rfl

theorem run_equalIn_nil (d : Nat) (a : Option Addr) (n c : Nat) (h : P.underlying T = some (.slice E)) : (Op.equalIn (d + 1) T (.slice a n c) (.slice none 0 0)).run P w = .ok a.isNone w := by
  cases a <;> simp [Op.equalIn, run_underlying h]
theorem run_equal_nil (a : Option Addr) (n c : Nat) (h : P.underlying T = some (.slice E)) : (Op.equal T (.slice a n c) (.slice none 0 0)).run P w = .ok a.isNone w := run_equalIn_nil 9999 a n c h
theorem run_eql_nil (a : Option Addr) (n c : Nat) (h : P.underlying T = some (.slice E)) : (binOp .eql T (.slice a n c) (.slice none 0 0)).run P w = .ok (.bool a.isNone) w := by
  simp [binOp, run_equal_nil a n c h]
theorem run_neq_nil (a : Option Addr) (n c : Nat) (h : P.underlying T = some (.slice E)) : (binOp .neq T (.slice a n c) (.slice none 0 0)).run P w = .ok (.bool (!a.isNone)) w := by
  simp [binOp, run_equal_nil a n c h]
/-- s == nil -/
theorem ev_eql_nil {a : Option Addr} {n c : Nat} (ht : P.underlying T = some (.slice E)) (hx : ev L x = some (.slice a n c)) (hy : ev L y = some (.slice none 0 0)) : EvR P L (.binOp .eql T x y T') ty w (VB a.isNone) := by
  intro ρ hρ d p f g
  simp [execOp, hρ x _ hx, hρ y _ hy, eqGuard, run_eql_nil a n c ht, ht]
theorem ev_neq_nil {a : Option Addr} {n c : Nat} (ht : P.underlying T = some (.slice E)) (hx : ev L x = some (.slice a n c)) (hy : ev L y = some (.slice none 0 0)) : EvR P L (.binOp .neq T x y T') ty w (VB (!a.isNone)) := by
  intro ρ hρ d p f g
  simp [execOp, hρ x _ hx, hρ y _ hy, eqGuard, run_neq_nil a n c ht, ht]

/-! ### Memory that is read -/
/-- A type of one cell. -/
def one? (P : Program) (t : TypeId) : Bool := match P.underlying t with
  | some (.struct _) => false
  | some (.array _ _) => false
  | some _ => true
  | none => false

def size? (P : Program) (t : TypeId) : Option Nat := (P.info? t).map (·.size)

theorem run_sizeOf {t : TypeId} {n : Nat} (h : size? P t = some n) : (sizeOf t).run P w = .ok n w := by
  unfold size? at h
  cases hi : P.info? t with
  | none => rw [hi] at h; cases h
  | some i => rw [hi] at h; simp at h; simp [sizeOf, typeInfo, hi, h]

theorem run_isAgg_one {t : TypeId} (h : one? P t = true) : (isAgg t).run P w = .ok false w := by
  unfold one? at h
  unfold isAgg
  split at h <;> simp_all [run_underlying]

theorem ev_load {q : Addr} (ht : one? P T = true) (hx : ev L x = some (.pointer (some q))) (hc : w.cell? q = some v) : EvR P L (.load T x) ty w v := by
  intro ρ hρ d p f g
  simp [execOp, hρ x _ hx, Instr.loadAt, Instr.sureAddr, loadVar, run_isAgg_one ht, hc]

def structOf (P : Program) (t : TypeId) : Bool := match P.underlying t with
  | some (.struct _) => true
  | _ => false

theorem run_isAgg_struct {t : TypeId} (h : structOf P t = true) : (isAgg t).run P w = .ok true w := by
  unfold structOf at h
  unfold isAgg
  split at h <;> simp_all [run_underlying]

theorem run_loadCellsFrom (bl off : Nat) (cs : List Value) : ∀ (i : Nat) (acc : Array Value), (∀ j (h : j < cs.length), w.cell? ⟨bl, off + (i + j), none⟩ = some cs[j]) →
    (loadCellsFrom ⟨bl, off, none⟩ i cs.length acc).run P w = .ok (acc ++ cs.toArray) w := by
  induction cs with
  | nil => intro i acc _; simp [loadCellsFrom]
  | cons c r ih =>
    intro i acc h
    have h0 := h 0 (by simp)
    have ha : (Addr.add ⟨bl, off, none⟩ i) = ⟨bl, off + i, none⟩ := by
      unfold Addr.add; split
      · rename_i hi; subst hi; rfl
      · rfl
    simp only [List.length_cons, loadCellsFrom, ha]
    have := ih (i + 1) (acc.push c) (fun j hj => by
      have := h (j + 1) (by simpa using hj)
      simpa [Nat.add_assoc, Nat.add_comm 1 j] using this)
    simp at h0
    simp [h0, this]

theorem ev_loads {bl off n : Nat} {cs : List Value} (ht : structOf P T = true) (hs : size? P T = some n) (hx : ev L x = some (ptr bl off))
    (hc : ∀ j (h : j < cs.length), w.cell? ⟨bl, off + j, none⟩ = some cs[j]) (hn : cs.length = n) : EvR P L (.load T x) ty w (.agg cs.toArray) := by
  intro ρ hρ d p f g
  subst hn
  have := run_loadCellsFrom (P := P) (w := w) bl off cs 0 #[] (by simpa using hc)
  simp [execOp, hρ x _ hx, Instr.loadAt, Instr.sureAddr, loadVar, run_isAgg_struct ht, run_sizeOf hs, loadCells, this]

/-- Field number 'i' of a struct: its offset, if its type is not empty. -/
def fieldOff (P : Program) (t : TypeId) (i : Nat) : Option Nat := match P.underlying t with
  | some (.struct fs) => match fs[i]? with
    | some f => match size? P f.type with
      | some n => bif Nat.beq n 0 then none else some f.offset
      | none => none
    | none => none
  | _ => none

theorem ev_fieldAddr {bl off i o : Nat} (hf : fieldOff P T i = some o) (hx : ev L x = some (ptr bl off)) : EvR P L (.fieldAddr T x i) ty w (ptr bl (off + o)) := by
  intro ρ hρ d p f g
  unfold fieldOff at hf
  split at hf
  · rename_i fs hu
    split at hf
    · rename_i fl hfl
      split at hf
      · rename_i n hn
        have hn0 : n ≠ 0 := by
          intro h; subst h; simp at hf
        have hne : Nat.beq n 0 = false := by
          cases h : Nat.beq n 0
          · rfl
          · exact absurd (Nat.eq_of_beq_eq_true h) hn0
        rw [hne] at hf
        simp at hf
        subst hf
        have ha : (Addr.add ⟨bl, off, none⟩ fl.offset) = ⟨bl, off + fl.offset, none⟩ := by
          unfold Addr.add; split
          · rename_i hi; rw [hi]; rfl
          · rfl
        simp [execOp, hρ x _ hx, Instr.fieldAt, run_underlying hu, hfl, Instr.sureAddr, fieldPlace, run_sizeOf hn, hn0, ha]
      · cases hf
    · cases hf
  · cases hf

/-- A field of a struct value, of one cell. -/
def fieldOne (P : Program) (t : TypeId) (i : Nat) : Option Nat := match P.underlying t with
  | some (.struct fs) => match fs[i]? with
    | some f => bif one? P f.type then some f.offset else none
    | none => none
  | _ => none

theorem ev_field {cs : Array Value} {i o : Nat} (hf : fieldOne P T i = some o) (hx : ev L x = some (.agg cs)) (hv : cs[o]? = some v) : EvR P L (.field T x i) ty w v := by
  intro ρ hρ d p f g
  unfold fieldOne at hf
  split at hf
  · rename_i fs hu
    split at hf
    · rename_i fl hfl
      cases h1 : one? P fl.type
      · rw [h1] at hf; cases hf
      · rw [h1] at hf
        simp at hf
        subst hf
        simp [execOp, hρ x _ hx, Instr.field, run_underlying hu, hfl, asAgg, part, run_isAgg_one h1, hv]
    · cases hf
  · cases hf

theorem ev_indexAddr {a : Option Addr} {bl off n cp sz : Nat} (ht : P.underlying T = some (.slice E)) (hs : size? P E = some sz) (hx : ev L x = some (.slice a n cp)) (hy : ev L y = some (VI k))
    (ha : a = some ⟨bl, off, none⟩) (h0 : 0 ≤ k) (h1 : k < n) : EvR P L (.indexAddr T x y) ty w (ptr bl (off + k.toNat * sz)) := by
  intro ρ hρ d p f g
  subst ha
  have hadd : (Addr.add ⟨bl, off, none⟩ (k.toNat * sz)) = ⟨bl, off + k.toNat * sz, none⟩ := by
    unfold Addr.add; split
    · rename_i hi; rw [hi]; rfl
    · rfl
  simp [execOp, hρ x _ hx, hρ y _ hy, Instr.indexAt, asIntOf, run_underlying ht, run_sizeOf hs, h0, h1, hadd]

theorem ev_len {a : Option Addr} {n cp : Nat} (ht : P.underlying T = some (.slice E)) (hx : ev L x = some (.slice a n cp)) : EvR P L (.call ⟨.builtin .len, #[x], #[T]⟩) ty w (VI n) := by
  intro ρ hρ d p f g
  simp [execOp, resolve, invoke, builtin, hρ x _ hx, Builtin.len_, run_underlying ht, goInt]

theorem ev_len_s {s : ByteArray} (ht : P.underlying T = some .string) (hx : ev L x = some (.string s)) : EvR P L (.call ⟨.builtin .len, #[x], #[T]⟩) ty w (VI s.size) := by
  intro ρ hρ d p f g
  simp [execOp, resolve, invoke, builtin, hρ x _ hx, Builtin.len_, run_underlying ht, goInt]

theorem ev_max {t1 t2 : TypeId} (hx : ev L x = some (VI m)) (hy : ev L y = some (VI k)) : EvR P L (.call ⟨.builtin .max, #[x, y], #[t1, t2]⟩) ty w (VI (max m k)) := by
  intro ρ hρ d p f g
  have : (if k > m then k else m) = max m k := by rw [Int.max_def]; split <;> split <;> omega
  simp [execOp, resolve, invoke, builtin, hρ x _ hx, hρ y _ hy, run_max_int2, this]
theorem ev_min {t1 t2 : TypeId} (hx : ev L x = some (VI m)) (hy : ev L y = some (VI k)) : EvR P L (.call ⟨.builtin .min, #[x, y], #[t1, t2]⟩) ty w (VI (min m k)) := by
  intro ρ hρ d p f g
  have : (if k < m then k else m) = min m k := by rw [Int.min_def]; split <;> split <;> omega
  simp [execOp, resolve, invoke, builtin, hρ x _ hx, hρ y _ hy, run_min_int2, this]

theorem ev_extract {vs : Array Value} {i : Nat} (hx : ev L x = some (.tuple vs)) (hv : vs[i]? = some v) : EvR P L (.extract x i) ty w v := by
  intro ρ hρ d p f g
  simp [execOp, hρ x _ hx, Instr.extract, hv]

def evs (L : Env) : List Operand → Option (List Value)
  | [] => some []
  | x :: r => match ev L x, evs L r with
    | some v, some l => some (v :: l)
    | _, _ => none

theorem evs_map {ρ : Operand → Value} (hρ : ∀ x v, ev L x = some v → ρ x = v) : ∀ {xs : List Operand} {l : List Value}, evs L xs = some l → xs.map ρ = l := by
  intro xs
  induction xs with
  | nil => intro l h; simp [evs] at h; simp [h]
  | cons x r ih =>
    intro l h
    simp only [evs] at h
    split at h
    · rename_i v l' hv hl
      simp only [Option.some.injEq] at h
      subst h
      simp [hρ x v hv, ih hl]
    · cases h

theorem ev_makeFunc {fn : Go.Fn} {xs ys : List Operand} {l l' : List Value} (hx : evs L xs = some l) (hy : evs L ys = some l') : EvR P L (.makeFunc fn xs.toArray ys.toArray) ty w (.func fn l.toArray l'.toArray) := by
  intro ρ hρ d p f g
  have h1 := evs_map hρ hx
  have h2 := evs_map hρ hy
  simp [execOp, Instr.makeFunc, h1, h2]

/-! ### Calls -/
theorem run_callFunc_ok {f : FuncId} {args : Array Value} (h : callable P f = true) : (callFunc f args).run P w = .ok (.enter f args) w := by
  unfold callable at h
  split at h
  · rename_i fn hf
    simp only [Bool.and_eq_true, Bool.not_eq_true'] at h
    obtain ⟨c, hc⟩ := Option.isSome_iff_exists.1 h.2
    have h1 : (fn.name == "runtime.NumGoroutine") = false := h.1
    have h2 : fn.name ≠ "runtime.NumGoroutine" := by simpa using h1
    simp [callFunc, hf, h2, hc]
  · cases h

theorem ev_call {f : FuncId} {xs : List Operand} {ts : Array TypeId} {l : List Value} {R : Value → World → Prop} (hx : evs L xs = some l) (h : Fn P f l.toArray w R) :
    EvM P L (.call ⟨.value (.func f), xs.toArray, ts⟩) ty w R := by
  intro ρ hρ d p g e
  have h1 := evs_map hρ hx
  have hf : ρ (.func f) = .func (.func f) #[] #[] := hρ _ _ rfl
  simp [execOp, resolve, invoke, hf, Deferred.ofValue, h1, run_callFunc_ok h.1, OpOk]
  exact h.2

theorem ev_callv {f : FuncId} {F : Operand} {xs : List Operand} {ts : Array TypeId} {l first cap : List Value} {R : Value → World → Prop} (hF : ev L F = some (.func (.func f) first.toArray cap.toArray))
    (hx : evs L xs = some l) (h : Fn P f (first ++ l ++ cap).toArray w R) : EvM P L (.call ⟨.value F, xs.toArray, ts⟩) ty w R := by
  intro ρ hρ d p g e
  have h1 := evs_map hρ hx
  simp [execOp, resolve, invoke, hρ _ _ hF, Deferred.ofValue, h1, run_callFunc_ok h.1, OpOk]
  have h2 := h.2
  simpa using h2
end
end Go.Proofs.YtdpdjbfjjlpfgaaGreatDoor
