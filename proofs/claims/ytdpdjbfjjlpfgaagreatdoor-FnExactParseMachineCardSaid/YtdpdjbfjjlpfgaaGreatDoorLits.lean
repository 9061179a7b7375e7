/- A literal of four integers. No condition. -/
import Derived.Test.YtdpdjbfjjlpfgaaGreatDoorBuild
namespace Go.Proofs.YtdpdjbfjjlpfgaaGreatDoor
open Go Go.RowKit

section
variable {P : Program} {L : Env} {ty T E : TypeId} {w : World} {x0 x1 x2 x3 : Operand} {u : Value}
theorem ev_lit4I {by' : Nat} {a b c e : Int} (ht : P.underlying T = some (.slice E)) (he : elem? P E = some (u, 1, by')) (h0 : ev L x0 = some (VI a)) (h1 : ev L x1 = some (VI b)) (h2 : ev L x2 = some (VI c)) (h3 : ev L x3 = some (VI e)) :
    EvM P L (.buildSlice T 4 #[(0, x0), (1, x1), (2, x2), (3, x3)]) ty w (fun r w' => r = .slice (some ⟨w.heap.size, 0, none⟩) 4 4 ∧ New w w' E [VI a, VI b, VI c, VI e]) := by
  intro ρ hρ d p f g
  obtain ⟨i, hi, hz, hsi, hby⟩ := elem_parts he
  have hsz' : size? P E = some 1 := by simp [size?, hi, hsi]
  have hzz : zero? P E = some u := by simp [zero?, hi, hz]
  have hgt : ¬ (4 * 1 > 2 ^ 24) := by omega
  have hne : ¬ (4 * 1 = 0) := by omega
  have hbase : ((Array.range (4 * 1)).map fun j => u.cells[j % u.cells.size]!) = [u.cells[0 % u.cells.size]!, u.cells[1 % u.cells.size]!, u.cells[2 % u.cells.size]!, u.cells[3 % u.cells.size]!].toArray := by
    apply Array.ext <;> simp
    intro i hi _
    match i, hi with
    | 0, _ => rfl
    | 1, _ => rfl
    | 2, _ => rfl
    | 3, _ => rfl
    | n + 4, h => omega
  have hfill : Instr.fill (fun i => some (i * 1, 1)) ((Array.range (4 * 1)).map fun j => u.cells[j % u.cells.size]!) [(0, VI a), (1, VI b), (2, VI c), (3, VI e)] = some #[VI a, VI b, VI c, VI e] := by
    rw [hbase]
    have := fill_set (fun i => some (i * 1, 1)) [(0, VI a), (1, VI b), (2, VI c), (3, VI e)] [u.cells[0 % u.cells.size]!, u.cells[1 % u.cells.size]!, u.cells[2 % u.cells.size]!, u.cells[3 % u.cells.size]!] (by
      intro p hp
      simp at hp
      rcases hp with rfl | rfl | rfl | rfl <;> exact ⟨rfl, by simp, rfl⟩)
    rw [this]
    rfl
  have := New.mk' w E [VI a, VI b, VI c, VI e]
  simp only [execOp, Instr.buildSlice, Sem.run_bind, run_underlying ht, Result.andThen_ok, run_sizeOf hsz', List.map_toArray, List.map_cons, List.map_nil, hρ x0 _ h0, hρ x1 _ h1, hρ x2 _ h2, hρ x3 _ h3, Sem.run_ite, hgt, if_false, hne, run_zero hzz, Sem.run_pure, hfill, newRow, run_newObj_alloc, OpOk]
  exact ⟨trivial, this⟩
end
end Go.Proofs.YtdpdjbfjjlpfgaaGreatDoor
