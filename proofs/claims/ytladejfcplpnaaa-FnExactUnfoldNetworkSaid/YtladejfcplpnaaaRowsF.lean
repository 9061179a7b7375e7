/- A slice of rows that grows by a row; append keeps the cells that are there. No condition. -/
import Derived.Test.YtladejfcplpnaaaRowsH
import Derived.Test.YtladejfcplpnaaaDraw
namespace Go.Proofs.Ytladejfcplpnaaa
open Go Go.RowKit

section
variable {P : Program} {T E ty : TypeId} {u : Value} {w w' : World}
theorem append_old {lo sz by' : Nat} {a : Option Addr} {n c m c2 : Nat} {cs ds : List Value} {i : TypeInfo} (ht : P.underlying T = some (.slice E)) (hi : P.info? E = some i) (hz : i.zero = some u) (hsi : i.size = sz) (hby : i.bytes = by')
    (ho : w.ownsRow lo E sz (.slice a n c) n cs) (ad : Addr) (hl : ds.length = m * sz) (hnews : ∀ j u, ds[j]? = some u → w.cell? (ad.add j) = some u) (h1 : ∀ u ∈ ds, u.oneCell' = true)
    (hn : (n + m) * by' ≤ 140737488355328) (hm : n + m ≤ maxLen) {v' : Value} {w' : World} (hr : (Builtin.append_ #[T, T] ty #[.slice a n c, .slice (some ad) m c2]).run P w = .ok v' w')
    {b o : Nat} {v : Value} (hc : w.cell? ⟨b, o, none⟩ = some v) (hb : ∀ q, a = some q → b = q.block → o < n * sz) : w'.cell? ⟨b, o, none⟩ = some v := by
  subst hsi hby
  have hsmall : n + m ≤ 9223372036854775807 := by simp only [maxLen] at hm; omega
  rcases ho.2 with ⟨hv0, h0⟩ | ⟨g, cap, cur, hv0, hbg, hg, hnc, hcm, hcs, htake⟩
  · cases hv0
    by_cases hm0 : m = 0
    · subst hm0
      have hd : ds = [] := List.eq_nil_of_length_eq_zero (by simpa using hl)
      subst hd
      have hr2 : (Builtin.append_ #[T, T] ty #[.slice none 0 0, .slice (some ad) 0 c2]).run P w = .ok (.slice none 0 0) w := by
        simp [Builtin.append_, run_underlying ht, sizeOf, typeInfo, hi, Builtin.lenOf, Builtin.firstCells, loadCells, loadCellsFrom]
      rw [hr2] at hr
      simp only [Result.ok.injEq] at hr
      rw [← hr.2]; exact hc
    · have hr2 := run_append_nil (P := P) w T ty E i u ht hi hz ad m c2 ds hl hnews (by omega) (by omega) (by have hb := hn; simp only [Nat.zero_add] at hb; omega)
      rw [hr2] at hr
      simp only [Result.ok.injEq] at hr
      rw [← hr.2]
      exact Ext.cell ((Ext.drew w).trans (New.mk' _ _ _).ext) hc
  · cases hv0
    by_cases hroom : n + m ≤ c
    · have hfit : n * i.size + ds.length ≤ cur.size := by rw [hl, hcs, ← Nat.add_mul]; exact Nat.mul_le_mul_right _ hroom
      have hr2 := run_append_room (P := P) w T ty E i ht hi g n c cur hg ad m c2 ds hl hnews h1 hroom hfit
      rw [hr2] at hr
      simp only [Result.ok.injEq] at hr
      rw [← hr.2]
      by_cases hbg2 : b = g
      · subst hbg2
        have ho2 : o < n * i.size := hb _ rfl rfl
        have hB : Blk w b E cur.toList := by unfold Blk; simpa using hg
        have hlt : o < cur.toList.length := by simp; omega
        have h5 := hB.cell (List.getElem?_eq_getElem hlt)
        rw [hc] at h5
        rw [cell_setRow_same _ _ _ _ _ _ _ hg, List.getElem?_toArray, List.append_assoc, List.getElem?_append_left (by simp; omega), List.getElem?_take_of_lt ho2, List.getElem?_eq_getElem hlt]
        exact h5.symm
      · rw [cell_setRow_other _ _ _ _ hbg2]; exact hc
    · have hr2 := run_append_grow (P := P) w T ty E i u ht hi hz ⟨g, 0, none⟩ n c cs ho.1 (ho.cells (g := g) rfl) ad m c2 ds hl hnews (by omega) (by omega) (growslice_fits (by omega) hn)
      rw [hr2] at hr
      simp only [Result.ok.injEq] at hr
      rw [← hr.2]
      exact Ext.cell ((Ext.drew w).trans (New.mk' _ _ _).ext) hc

/-- append(s, ys...), and the cells that it keeps. -/
theorem ev_appendC {L : Env} {x y : Operand} {lo sz by' : Nat} {a a2 : Option Addr} {n c m c2 : Nat} {cs ds : List Value} {lo2 hi2 : Nat} (ht : P.underlying T = some (.slice E)) (he : elem? P E = some (u, sz, by')) (hu : u.cells.size = sz) (hsz : 0 < sz)
    (hx : ev L x = some (.slice a n c)) (hy : ev L y = some (.slice a2 m c2)) (ho : Own lo w E sz a n c cs) (hs : SAt lo2 hi2 w a2 ds) (hl : ds.length = m * sz) (h1 : ∀ u ∈ ds, u.oneCell' = true) (hm0 : 0 < m)
    (hn : (n + m) * by' ≤ 140737488355328) (hm : n + m ≤ maxLen) (hlo : lo ≤ w.heap.size) :
    EvM P L (.call ⟨.builtin .append, #[x, y], #[T, T]⟩) ty w (fun r w' => (∃ a' c', r = .slice a' (n + m) c' ∧ Own lo w' E sz a' (n + m) c' (cs ++ ds) ∧ Apd w w' a ∧ ∀ q, a' = some q → (∃ p, a = some p ∧ q.block = p.block) ∨ w.heap.size ≤ q.block) ∧
      ∀ b o v, w.cell? ⟨b, o, none⟩ = some v → (∀ q, a = some q → b = q.block → o < n * sz) → w'.cell? ⟨b, o, none⟩ = some v) := by
  intro ρ hρ d p f g
  have h9 := ev_append (ty := ty) ht he hu hsz hx hy ho hs hl h1 hn hm hlo ρ hρ d p f g
  obtain ⟨i, hi, hz, hsi, hby⟩ := elem_parts he
  have h0 : ds ≠ [] := by
    intro e; subst e
    have hz0 : m * sz = 0 := by simpa using hl.symm
    rcases Nat.mul_eq_zero.1 hz0 with h | h <;> omega
  obtain ⟨b2, off2, rfl, _, _, hc⟩ := hs.at (List.length_pos_iff.2 h0)
  have hnew : ∀ j u', ds[j]? = some u' → w.cell? (Addr.add ⟨b2, off2, none⟩ j) = some u' := fun j u' hj => by
    have hjl : j < ds.length := by
      rcases Nat.lt_or_ge j ds.length with h | h
      · exact h
      · rw [List.getElem?_eq_none h] at hj; cases hj
    rw [Addr.add_lit, hc j hjl]
    rw [List.getElem?_eq_getElem hjl] at hj
    exact hj
  cases hr : (Builtin.append_ #[T, T] ty #[.slice a n c, .slice (some ⟨b2, off2, none⟩) m c2]).run P w with
  | halt x' w' =>
    have hrun : (execOp ρ ⟨d, .call ⟨.builtin .append, #[x, y], #[T, T]⟩, ty, p, f, g⟩).run P w = .halt x' w' := by
      simp only [execOp, resolve, invoke, builtin, hρ x _ hx, hρ y _ hy, Sem.run_bind, Sem.run_pure, Result.andThen_ok, List.map_toArray, List.map_cons, List.map_nil]
      rw [hr]; rfl
    rw [hrun] at h9; exact h9.elim
  | ok v' w' =>
    have hrun : (execOp ρ ⟨d, .call ⟨.builtin .append, #[x, y], #[T, T]⟩, ty, p, f, g⟩).run P w = .ok (.value v') w' := by
      simp only [execOp, resolve, invoke, builtin, hρ x _ hx, hρ y _ hy, Sem.run_bind, Sem.run_pure, Result.andThen_ok, List.map_toArray, List.map_cons, List.map_nil]
      rw [hr]; rfl
    rw [hrun] at h9 ⊢
    exact ⟨h9, fun b o v hcv hb => append_old ht hi hz hsi hby ho ⟨b2, off2, none⟩ hl hnew h1 hn hm hr hcv hb⟩
end

/-- A slice of rows, whose own block has the type F. -/
def RowsF (l r : Nat) (w : World) (E F : TypeId) (a : Option Addr) (c : Nat) (xss : List (List Int)) : Prop := ∃ vs, RowsAt l r w E F a c vs xss
section
variable {l r c : Nat} {w w' : World} {E F : TypeId} {a : Option Addr} {xss : List (List Int)}
theorem RowsF.h (h : RowsF l r w E F a c xss) : RowsH l r w E a c xss := by obtain ⟨vs, h⟩ := h; exact ⟨F, vs, h⟩
theorem RowsF.is (h : RowsF l r w E F a c xss) : Intss l r w a c xss := h.h.is
theorem RowsF.keep {G : Nat → Prop} (h : RowsF l r w E F a c xss) (k : Keep G w w') (hG : ∀ b, l ≤ b → b < r → G b) : RowsF l r w' E F a c xss := by obtain ⟨vs, h⟩ := h; exact ⟨vs, h.keep k hG⟩
theorem RowsF.ext (h : RowsF l r w E F a c xss) (k : Ext w w') : RowsF l r w' E F a c xss := by obtain ⟨vs, h⟩ := h; exact ⟨vs, h.ext k⟩
theorem RowsF.sto {g : Nat} {T : TypeId} {ds : List Value} (h : RowsF l r w E F a c xss) (k : Sto w w' g T ds) (hb : g < l ∨ r ≤ g) : RowsF l r w' E F a c xss := h.keep k.keep fun b h1 h2 => by show b ≠ g; omega
theorem RowsF.rg {lo hi p q : Nat} (h : RowsF l r w E F a c xss) (k : Rg lo hi p q w w') (hb : (r ≤ lo ∨ hi ≤ l ∨ (p ≤ l ∧ r ≤ q)) ∧ r ≤ w.heap.size) : RowsF l r w' E F a c xss := h.keep k fun b h1 h2 => by omega
theorem RowsF.nil : RowsF l r w E F none 0 [] := ⟨[], rfl, Own.nil _ _ _ _, (fun _ h => by cases h), (fun i h1 => by simp at h1), (fun i h1 => by simp at h1), (fun i j h1 => by simp at h1), (fun i h1 => by simp at h1)⟩
theorem RowsF.up {r' : Nat} (h : RowsF l r w E F a c xss) (hr : r ≤ r') : RowsF l r' w E F a c xss := by
  obtain ⟨vs, h⟩ := h
  exact ⟨vs, h.len, h.out, fun p hp => Nat.lt_of_lt_of_le (h.otop p hp) hr, h.row, fun i h1 p hp => Nat.lt_of_lt_of_le (h.top i h1 p hp) hr, h.sep, h.osep⟩
theorem RowsAt.low {l' : Nat} {vs : List (Option Addr × Nat)} (h : RowsAt l r w E F a c vs xss) (hl : l' ≤ l) : RowsAt l' r w E F a c vs xss := ⟨h.len, h.out.mono hl, h.otop, fun i h1 h2 => (h.row i h1 h2).mono hl, h.top, h.sep, h.osep⟩
theorem rowsf_snoc {vs : List (Option Addr × Nat)} (h : RowsAt l r w E F a c vs xss) {a' a2 : Option Addr} {c' c2 l2 : Nat} {ys : List Int} {n' : Nat} (hy : Own l2 w E 1 a2 ys.length c2 (ys.map VI)) (hl : l ≤ l2) (hn : r ≤ l2) (k : Apd w w' a) (o : Own l w' F 1 a' n' c' ((vs.zip xss).map (fun p => rowVal p.1 p.2) ++ [.slice a2 ys.length c2])) (hn' : n' = xss.length + 1)
    (fr : ∀ q, a' = some q → (∃ p, a = some p ∧ q.block = p.block) ∨ w.heap.size ≤ q.block) (hr : r ≤ w.heap.size) : RowsF l w'.heap.size w' E F a' c' (xss ++ [ys]) := by
  subst hn'
  exact ⟨_, h.snoc (hy.mono hl) (fun q hq => Nat.le_trans hn (hy.block q hq).1) k o fr hr⟩
theorem RowsF.to {yss : List (List Int)} (h : RowsF l r w E F a c xss) (e : xss = yss) : RowsF l r w E F a c yss := e ▸ h
theorem Own.otop {n sz : Nat} {cs : List Value} (h : Own l w E sz a n c cs) (p : Addr) (hp : a = some p) : p.block < w.heap.size := (h.block p hp).2
/-- A literal of one row. -/
theorem RowsF.lit {b g l2 c2 : Nat} {a2 : Option Addr} {ys : List Int} (hB : Blk w b F [.slice a2 ys.length c2]) (hb : l ≤ b) (hO : Own l2 w E 1 a2 ys.length c2 (ys.map VI)) (hl : l ≤ l2) (ht : ∀ p, a2 = some p → p.block < b) (hg : g = b) : RowsF l (b + 1) w E F (some ⟨g, 0, none⟩) 1 [ys] := by
  subst hg
  refine ⟨[(a2, c2)], rfl, own_of_blk hB hb rfl (by show 1 ≤ 1048576; omega), ?_, ?_, ?_, ?_, ?_⟩
  · intro p hp; cases hp; show g < g + 1; omega
  · intro i h1 h2; simp at h1; subst h1; exact hO.mono hl
  · intro i h1 p hp; simp at h1; subst h1; have := ht p hp; omega
  · intro i j h1 h2 hne; simp at h1 h2; omega
  · intro i h1 p q hp hq; simp at h1; subst h1; cases hp; have := ht q hq; show g ≠ q.block; omega
end
end Go.Proofs.Ytladejfcplpnaaa
