/- A struct literal that names some of the fields. No condition. -/
import Derived.Test.YtdpdjbfjjlpfgaaGreatDoorMore
namespace Go.Proofs.YtdpdjbfjjlpfgaaGreatDoor
open Go Go.RowKit

section
variable {P : Program} {L : Env} {ty T : TypeId} {w : World} {x y : Operand} {v u : Value}
theorem fill_set (place : Nat → Option (Nat × Nat)) (parts : List (Nat × Value)) : ∀ (cs : List Value), (∀ p ∈ parts, place p.1 = some (p.1, 1) ∧ p.1 < cs.length ∧ p.2.cells = #[p.2]) →
    Instr.fill place cs.toArray parts = some (parts.foldl (fun cs p => cs.set p.1 p.2) cs).toArray := by
  induction parts with
  | nil => intro cs _; rfl
  | cons p r ih =>
    intro cs h
    obtain ⟨i, v⟩ := p
    obtain ⟨h1, h2, h3⟩ := h (i, v) (List.mem_cons_self ..)
    simp only at h1 h2 h3
    have h4 := ih (cs.set i v) fun q hq => by
      have := h q (List.mem_cons_of_mem _ hq)
      exact ⟨this.1, by simpa using this.2.1, this.2.2⟩
    simp only [Instr.fill, h1, h3, List.foldl_cons]
    rw [if_neg (by simp; omega), ← h4]
    congr 1
    simp
theorem ev_buildP {n : Nat} {parts : List (Nat × Operand)} {l : List (Nat × Value)} {zs : List Value} (hn : structN P T n = true) (hz : zero? P T = some (.agg zs.toArray)) (hx : ∀ ρ : Operand → Value, (∀ x v, ev L x = some v → ρ x = v) → parts.map (fun p => (p.1, ρ p.2)) = l)
    (h1 : ∀ p ∈ l, p.1 < n ∧ p.2.cells = #[p.2]) : EvR P L (.build T parts.toArray) ty w (.agg (l.foldl (fun cs p => cs.set p.1 p.2) zs).toArray) := by
  intro ρ hρ d p f g
  have hm := hx ρ hρ
  unfold structN at hn
  rw [hz] at hn
  split at hn
  · rename_i fs z hu hz'
    simp only [Option.some.injEq, Value.agg.injEq] at hz'
    subst hz'
    simp only [Bool.and_eq_true] at hn
    obtain ⟨⟨h2, h3⟩, h4⟩ := hn
    have hfs : fs.size = n := Nat.eq_of_beq_eq_true h2
    have hzs : zs.length = n := by simpa using Nat.eq_of_beq_eq_true h3
    have hp := run_places (P := P) (w := w) fs.toList 0 h4
    have hfill := fill_set (fun i => ((List.range' 0 fs.toList.length).map fun i => (i, 1))[i]?) l zs (fun q hq => by
      obtain ⟨k1, k2⟩ := h1 q hq
      have : q.1 < fs.size := by omega
      exact ⟨by simp [this], by omega, k2⟩)
    simp only [execOp, Instr.build, Sem.run_bind, run_zero hz, run_underlying hu, Result.andThen_ok, Value.cells, List.map_toArray, hm]
    rw [← Array.toArray_toList (xs := fs), List.mapM_toArray]
    simp only [Sem.run_map, hp, Result.andThen_ok]
    simp only [List.getElem?_toArray]
    rw [hfill]
    simp
  · cases hn
theorem ev_buildP0 {n : Nat} {zs : List Value} (hn : structN P T n = true) (hz : zero? P T = some (.agg zs.toArray)) : EvR P L (.build T #[]) ty w (.agg zs.toArray) :=
  ev_buildP (parts := []) (l := []) hn hz (fun _ _ => rfl) (fun p hp => by cases hp)
theorem ev_buildP1 {n i : Nat} {zs : List Value} (hn : structN P T n = true) (hz : zero? P T = some (.agg zs.toArray)) (hi : Nat.blt i n = true) (hx : ev L x = some v) (h1 : v.cells = #[v]) : EvR P L (.build T #[(i, x)]) ty w (.agg (zs.set i v).toArray) :=
  ev_buildP (parts := [(i, x)]) (l := [(i, v)]) hn hz (fun ρ h => by simp [h _ _ hx]) (fun p hp => by simp at hp; subst hp; exact ⟨Nat.le_of_ble_eq_true hi, h1⟩)
theorem ev_buildP2 {n i j : Nat} {zs : List Value} (hn : structN P T n = true) (hz : zero? P T = some (.agg zs.toArray)) (hi : Nat.blt i n = true) (hj : Nat.blt j n = true) (hx : ev L x = some v) (hy : ev L y = some u) (h1 : v.cells = #[v]) (h2 : u.cells = #[u]) : EvR P L (.build T #[(i, x), (j, y)]) ty w (.agg ((zs.set i v).set j u).toArray) :=
  ev_buildP (parts := [(i, x), (j, y)]) (l := [(i, v), (j, u)]) hn hz (fun ρ h => by simp [h _ _ hx, h _ _ hy]) (fun p hp => by simp at hp; rcases hp with rfl | rfl; exact ⟨Nat.le_of_ble_eq_true hi, h1⟩; exact ⟨Nat.le_of_ble_eq_true hj, h2⟩)
end
end Go.Proofs.YtdpdjbfjjlpfgaaGreatDoor
