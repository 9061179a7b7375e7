/- Maps whose keys are structs of two integers. No condition. -/
import Derived.Test.YtladejfcplpnaaaMaps
import Derived.Test.YtladejfcplpnaaaFacts
namespace Go.Proofs.Ytladejfcplpnaaa
open Go Go.RowKit Go.Maps

/-- A pair of integers, as a struct. -/
def VPair (p : Int × Int) : Value := .agg #[VI p.1, VI p.2]
theorem VPair_inj (x y : Int × Int) (h : VPair x = VPair y) : x = y := by
  have := h
  simp [VPair, VI] at this
  exact Prod.ext this.1 this.2
def isI (P : Program) (T : TypeId) : Bool := match P.underlying T with | some (.int .i64) => true | _ => false
theorem isI_eq {P : Program} {T : TypeId} (h : isI P T = true) : P.underlying T = some (.int .i64) := by
  unfold isI at h
  split at h
  · assumption
  · cases h
/-- The type is a struct of two integers that may be a key. -/
def pairK (P : Program) (K : TypeId) : Bool :=
  match P.underlying K with
  | some (.struct fs) =>
    match fs.toList with
    | [f, g] => decide (f.offset = 0) && decide (g.offset = 1) && decide (P.cellsOf f.type = 1) && decide (P.cellsOf g.type = 1) && isI P f.type && isI P g.type && decide (P.cellsOf K = 2) && P.keyType K && fs.all (·.name != "_")
    | _ => false
  | _ => false
theorem goodK_pair {P : Program} {K : TypeId} (h : pairK P K = true) {p : Int × Int} (h1 : I64 p.1) (h2 : I64 p.2) : GoodK P K (VPair p) := by
  unfold pairK at h
  split at h
  · rename_i fs hu
    split at h
    · rename_i f g hf
      simp only [Bool.and_eq_true, decide_eq_true_eq] at h
      obtain ⟨⟨⟨⟨⟨⟨⟨⟨e1, e2⟩, e3⟩, e4⟩, e5⟩, e6⟩, e7⟩, hkt⟩, hall⟩ := h
      have e5 := isI_eq e5
      have e6 := isI_eq e6
      have w1 : (Lit.int .i64 p.1).wf = true := WalkArith.wf_i64 h1
      have w2 : (Lit.int .i64 p.2).wf = true := WalkArith.wf_i64 h2
      have hpos : P.types.size ≠ 0 := fun h0 => by
        have : (P.underlying f.type).isSome = true := by rw [e5]; rfl
        simp [Program.keyType, Program.keyTypeAt, h0, hu, hf] at hkt
        have hsz : fs.size = 2 := by rw [← Array.length_toList, hf]; rfl
        have h9 := hkt.1.1 0
        omega
      obtain ⟨m, hm⟩ := Nat.exists_eq_succ_of_ne_zero hpos
      have hk : P.keyLits (P.types.size + 1) K (VPair p).cells.toList = some [Lit.int .i64 p.1, Lit.int .i64 p.2] := by
        show P.keyLits (P.types.size + 1) K [VI p.1, VI p.2] = _
        rw [Program.keyLits.eq_def]
        simp only [hu]
        rw [if_pos ⟨by simp [e7], hall⟩, hf, hm]
        simp [Program.keyLits, e1, e2, e3, e4, e5, e6, w1, w2, VI]
      have hfm : (VPair p).formed P K = true := by simp [VPair, Value.formed, hu, e7]
      refine ⟨.string (keyBytes [Lit.int .i64 p.1, Lit.int .i64 p.2]), ?_⟩
      unfold keyOf
      simp only [hu]
      rw [if_pos (by rw [hkt, hfm]; rfl), hk]
      rfl
    · cases h
  · cases h
theorem Mp.app {κ μ : Type} {P : Program} {K : TypeId} {ek : κ → Value} {em : μ → Value} {w w' : World} {b : Nat} {kvs : List (κ × μ)} {a' : Option Addr} {lo' sz' n' c' : Nat} {E : TypeId} {ds : List Value} (h : Mp P K ek em w b kvs) (k : Apd w w' a') (o : Own lo' w E sz' a' n' c' ds) (hb : b < lo') : Mp P K ek em w' b kvs :=
  h.keep k ⟨h.lt, fun q hq => by have := (o.block q hq).1; omega⟩
section
variable {κ : Type} [DecidableEq κ] {P : Program} {L : Env} {ty T K E : TypeId} {ek : κ → Value} {w : World} {x y z : Operand} {b : Nat} {k : κ}
theorem getD_vp (o : Option (Int × Int)) : (o.map VPair).getD (VPair (0, 0)) = .agg #[VI (o.getD (0, 0)).1, VI (o.getD (0, 0)).2] := by cases o <;> rfl
theorem ev_lookup1P {kvs : List (κ × (Int × Int))} (law : Keyed P K) (inj : ∀ x y, ek x = ek y → x = y) (ht : P.underlying T = some (.map K E)) (hz : zero? P E = some (VPair (0, 0))) (hx : ev L x = some (.map (some b))) (hy : ev L y = some (ek k)) (h : Mp P K ek VPair w b kvs) (hk : GoodK P K (ek k)) :
    EvR P L (.lookup T x y false) ty w (.agg #[VI ((alook kvs k).getD (0, 0)).1, VI ((alook kvs k).getD (0, 0)).2]) := by
  rw [← getD_vp]; exact ev_lookup1 law inj ht hz hx hy h hk
end
end Go.Proofs.Ytladejfcplpnaaa
