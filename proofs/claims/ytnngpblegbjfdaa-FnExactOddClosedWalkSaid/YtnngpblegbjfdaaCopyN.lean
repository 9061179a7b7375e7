/- copy of elements of any size, into a block. No condition. -/
import Derived.Test.YtnngpblegbjfdaaMore
import Derived.Laws.CopyRow
namespace Go.Proofs.Ytnngpblegbjfdaa
open Go Go.RowKit

section
variable {P : Program} {L : Env} {ty T T' E : TypeId} {w : World} {x y : Operand}
theorem run_copy_sz (w : World) (dT sT ty elem : TypeId) (g o dLen dCap : Nat) (a : Addr) (sLen sCap sz : Nat) (cur : Array Value) (t : TypeId) (cs : List Value)
    (hu : P.underlying dT = some (.slice elem)) (hs : (P.info? elem).map (·.size) = some sz)
    (hg : w.heap[g]? = some (.cells cur t (0, 0))) (hn : cs.length = Nat.min sLen dLen * sz)
    (hsrc : ∀ j v, cs[j]? = some v → w.cell? (a.add j) = some v) (hfit : o + cs.length ≤ cur.size) (h1 : ∀ v ∈ cs, v.oneCell' = true) :
    (Builtin.copy_ #[dT, sT] ty #[.slice (some ⟨g, o, none⟩) dLen dCap, .slice (some a) sLen sCap]).run P w =
      .ok (goInt (Nat.min sLen dLen)) (w.setRow g (cur.toList.take o ++ cs ++ cur.toList.drop (o + cs.length)).toArray) := by
  have hl := run_loadCells_list (P := P) w a cs hsrc
  have hst := run_storeCells_at P g o t cs 0 cur w hg (by simpa using hfit) h1
  cases hq : P.info? elem with
  | none => simp [hq] at hs
  | some i =>
    have hi : i.size = sz := by simpa [hq] using hs
    simp [Builtin.copy_, run_underlying hu, Builtin.lenOf, Builtin.firstCells, sizeOf, typeInfo, hq, hi, ← hn, hl, hst]
theorem ev_copyN {b o n c m c2 lo hi sz : Nat} {a2 : Option Addr} {cs ds : List Value} {z : Value} {by' : Nat} (ht : P.underlying T = some (.slice E)) (he : elem? P E = some (z, sz, by')) (hx : ev L x = some (.slice (some ⟨b, o, none⟩) n c)) (hy : ev L y = some (.slice a2 m c2))
    (hB : Blk w b T' cs) (hs : SAt lo hi w a2 ds) (hl : ds.length = min m n * sz) (ho : o + ds.length ≤ cs.length) (h1 : ∀ v ∈ ds, v.oneCell' = true) (h0 : 0 < ds.length) :
    EvM P L (.call ⟨.builtin .copy, #[x, y], #[T, T]⟩) ty w (fun r w' => r = VI ((min m n : Nat) : Int) ∧ Sto w w' b T' (cs.take o ++ ds ++ cs.drop (o + ds.length))) := by
  intro ρ hρ d p f g
  obtain ⟨i, hi, hz, hsi, hby⟩ := elem_parts he
  have hs1 : (P.info? E).map (·.size) = some sz := by rw [hi]; simp [hsi]
  simp only [execOp, resolve, invoke, builtin, hρ x _ hx, hρ y _ hy, Sem.run_bind, Sem.run_pure, Result.andThen_ok, List.map_toArray, List.map_cons, List.map_nil]
  obtain ⟨b2, off2, rfl, _, _, hc⟩ := hs.at h0
  have hsrc : ∀ j v, ds[j]? = some v → w.cell? (Addr.add ⟨b2, off2, none⟩ j) = some v := fun j v hj => by
    have hjl : j < ds.length := by
      rcases Nat.lt_or_ge j ds.length with h | h
      · exact h
      · rw [List.getElem?_eq_none h] at hj; cases hj
    rw [Addr.add_lit, hc j hjl]
    rw [List.getElem?_eq_getElem hjl] at hj
    exact hj
  rw [run_copy_sz (P := P) w T T ty E b o n c ⟨b2, off2, none⟩ m c2 sz cs.toArray T' ds ht hs1 hB hl hsrc (by simpa using ho) h1]
  simp only [Result.andThen_ok, OpOk]
  refine ⟨rfl, ?_⟩
  have hlt := hB.lt
  refine ⟨⟨rfl, rfl, rfl, by simp [World.setRow], fun k hk => ?_⟩, by simp [World.setRow], ?_, ⟨cs, hB, by simp; omega⟩⟩
  · simp only [World.setRow, Array.getElem?_modify]
    rw [if_neg (fun h => hk h.symm)]
  · unfold Blk at *
    have hge := (Array.getElem?_eq_some_iff.1 hB).2
    simp only [World.setRow, Array.getElem?_modify]
    simp [hlt, hge]
end
end Go.Proofs.Ytnngpblegbjfdaa
