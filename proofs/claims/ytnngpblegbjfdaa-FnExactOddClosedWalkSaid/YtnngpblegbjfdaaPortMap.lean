/- Contracts of IsPortMap, of the program and of the reference, and of what they call; the walk of FnExactIsPortMap. -/
import Derived.Test.YtnngpblegbjfdaaNetwork
namespace Go.Proofs.Ytnngpblegbjfdaa
open Go Go.RowKit

def MEnd (B : Net) (m : List Int) (x : Int) (i : Nat) (e : Int × Int) : Prop := ∃ (_h2 : x.toNat < B.ends.length) (_h3 : i < B.ends[x.toNat].length) (_h4 : e.1.toNat < m.length), B.ends[x.toNat][i] = (m[e.1.toNat], e.2)
def MRow (A B : Net) (m : List Int) (v : Nat) (r : List (Int × Int)) : Prop := ∃ (_h1 : v < m.length) (_h2 : m[v].toNat < B.ends.length) (_h3 : v < A.inputs.length) (_h4 : m[v].toNat < B.inputs.length), r.length = B.ends[m[v].toNat].length ∧ A.inputs[v] = B.inputs[m[v].toNat] ∧ ∀ i (_h : i < r.length), MEnd B m m[v] i r[i]
/-- m keeps the ports. -/
structure IsPM (A B : Net) (m : List Int) : Prop where
  len : (m.length : Int) = A.ends.length
  rng : allR m 0 ((B.ends.length : Int) - 1) = true
  rows : ∀ v (_h : v < A.ends.length), MRow A B m v A.ends[v]
theorem MEnd.no {B : Net} {m : List Int} {x : Int} {i : Nat} {e : Int × Int} (h : MEnd B m x i e) {h2 : x.toNat < B.ends.length} {h3 : i < B.ends[x.toNat].length} {h4 : e.1.toNat < m.length} (k : ¬ (B.ends[x.toNat][i].1 = m[e.1.toNat] ∧ B.ends[x.toNat][i].2 = e.2)) : False := k (by obtain ⟨_, _, _, q⟩ := h; rw [q]; exact ⟨rfl, rfl⟩)
theorem IsPM.mend {A B : Net} {m : List Int} (h : IsPM A B m) {v i : Nat} (hv : v < A.ends.length) (hi : i < A.ends[v].length) (hm : v < m.length) : MEnd B m m[v] i A.ends[v][i] := by obtain ⟨_, _, _, _, _, _, q⟩ := h.rows v hv; exact q i hi
theorem IsPM.rowlen {A B : Net} {m : List Int} (h : IsPM A B m) {v : Nat} (hv : v < A.ends.length) (hm : v < m.length) (hb : m[v].toNat < B.ends.length) : A.ends[v].length = B.ends[m[v].toNat].length := by obtain ⟨_, _, _, _, q, _⟩ := h.rows v hv; exact q
theorem IsPM.inp {A B : Net} {m : List Int} (h : IsPM A B m) {v : Nat} (hv : v < A.ends.length) (hm : v < m.length) (ha : v < A.inputs.length) (hb : m[v].toNat < B.inputs.length) : A.inputs[v] = B.inputs[m[v].toNat] := by obtain ⟨_, _, _, _, _, q, _⟩ := h.rows v hv; exact q
theorem tfF (h : true = false) : False := by cases h
/-- The result of IsPortMap and of its like: right, and valid. -/
def Two (b q : Bool) (V P : Prop) : Prop := (q = true ↔ V) ∧ (b = true ↔ V ∧ P)
theorem Two.det1 {b q b' q' : Bool} {V P : Prop} (h : Two b q V P) (k : Two b' q' V P) : b = b' := bool_eq_of h.2 k.2
theorem Two.det2 {b q b' q' : Bool} {V P : Prop} (h : Two b q V P) (k : Two b' q' V P) : q = q' := bool_eq_of h.1 k.1
theorem Two.no {V P : Prop} (h : ¬ V) : Two false false V P := ⟨ffI h, ffI fun k => h k.1⟩
theorem Two.yes {b : Bool} {V P : Prop} (h : V) (hb : b = true ↔ P) : Two b true V P := ⟨ttI h, ⟨fun k => ⟨h, hb.1 k⟩, fun k => hb.2 k.2⟩⟩

end Go.Proofs.Ytnngpblegbjfdaa
