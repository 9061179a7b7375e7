/- The text of a machine: words, lines, and what they are made of. -/
import Derived.Laws.Strings
import Derived.Lib.Join
import Derived.Lib.ItoaNum
import Derived.Test.YtdpdjbfjjlpfgaaGreatDoorMachine
import Derived.Test.YtdpdjbfjjlpfgaaGreatDoorMore
import Derived.Test.YtdpdjbfjjlpfgaaGreatDoorBfs
import Derived.Test.YtdpdjbfjjlpfgaaGreatDoorStrs
import Derived.Test.YtdpdjbfjjlpfgaaGreatDoorLits
namespace Go.Proofs.YtdpdjbfjjlpfgaaGreatDoor
open Go Go.RowKit

/-- A string by its bytes. -/
def bs (l : List UInt8) : ByteArray := ⟨l.toArray⟩
theorem bs_app (a b : List UInt8) : bs a ++ bs b = bs (a ++ b) := by
  apply ByteArray.ext
  simp [bs, ByteArray.data_append]
theorem bs_size (l : List UInt8) : (bs l).size = l.length := by simp [bs, ByteArray.size]
theorem bs_list (l : List UInt8) : (bs l).data.toList = l := by simp [bs]
theorem bs_inj {a b : List UInt8} (h : bs a = bs b) : a = b := by
  have := congrArg (fun s : ByteArray => s.data.toList) h
  simpa [bs] using this
section
variable {P : Program} {L : Env} {ty T T' : TypeId} {w : World} {x y : Operand} {a b : List UInt8}
theorem ev_addS (hx : ev L x = some (.string (bs a))) (hy : ev L y = some (.string (bs b))) (h : a.length + b.length ≤ 9223372036854775807) : EvR P L (.binOp .add T x y T') ty w (.string (bs (a ++ b))) := by
  intro ρ hρ d p f g
  have h1 : ¬ ((((bs a).size + (bs b).size : Nat) : Int) > IntKind.i64.max) := by rw [bs_size, bs_size]; show ¬ (_ > (9223372036854775807 : Int)); omega
  simp [execOp, hρ x _ hx, hρ y _ hy, eqGuard, binOp, Op.stringOp, h1, bs_app]
  rw [bs_size, bs_size]; omega
theorem bs_toList (l : List UInt8) : (bs l).toList = l := ByteArray.toList_mk l
theorem ev_neq_str (hx : ev L x = some (.string (bs a))) (hy : ev L y = some (.string (bs b))) : EvR P L (.binOp .neq T x y T') ty w (VB (decide (a ≠ b))) := by
  intro ρ hρ d p f g
  have e : (!(a == b)) = decide (a ≠ b) := by by_cases h : a = b <;> simp [h]
  simp [execOp, hρ x _ hx, hρ y _ hy, eqGuard, binOp_string_neq, bs_toList, e]
theorem ev_eql_str (hx : ev L x = some (.string (bs a))) (hy : ev L y = some (.string (bs b))) : EvR P L (.binOp .eql T x y T') ty w (VB (decide (a = b))) := by
  intro ρ hρ d p f g
  have e : (a == b) = decide (a = b) := by by_cases h : a = b <;> simp [h]
  simp [execOp, hρ x _ hx, hρ y _ hy, eqGuard, binOp_string_eql, bs_toList, e]
end
section
variable {P : Program} {L : Env} {ty T T' E : TypeId} {w : World} {x x0 x1 : Operand} {u : Value}
theorem ev_convB1 {b : Nat} {T0 : TypeId} {m : Int} (hs : P.underlying T = some (.slice E)) (he : P.underlying E = some (.int .u8)) (hd : P.underlying T' = some .string) (hx : ev L x = some (.slice (some ⟨b, 0, none⟩) 1 1)) (hB : Blk w b T0 [VU m]) : EvR P L (.convert T T' x) ty w (.string (bs [UInt8.ofNat m.toNat])) := by
  have h := ev_convBS (ty := ty) hs he hd hx (xs := [m]) rfl (fun i hi => ucell (xs := [m]) hB hi)
  have e : strOfNums [m] = bs [UInt8.ofNat m.toNat] := by
    apply ByteArray.ext
    apply Array.toList_inj.1
    rw [strOfNums_data]; rfl
  rw [e] at h; exact h
theorem ev_lit2I {by' : Nat} {a b : Int} (ht : P.underlying T = some (.slice E)) (he : elem? P E = some (u, 1, by')) (h0 : ev L x0 = some (VI a)) (h1 : ev L x1 = some (VI b)) :
    EvM P L (.buildSlice T 2 #[(0, x0), (1, x1)]) ty w (fun r w' => r = .slice (some ⟨w.heap.size, 0, none⟩) 2 2 ∧ New w w' E [VI a, VI b]) := by
  intro ρ hρ d p f g
  obtain ⟨i, hi, hz, hsi, hby⟩ := elem_parts he
  have hsz' : size? P E = some 1 := by simp [size?, hi, hsi]
  have hzz : zero? P E = some u := by simp [zero?, hi, hz]
  have hgt : ¬ (2 * 1 > 2 ^ 24) := by omega
  have hne : ¬ (2 * 1 = 0) := by omega
  have hbase : ((Array.range (2 * 1)).map fun j => u.cells[j % u.cells.size]!) = [u.cells[0 % u.cells.size]!, u.cells[1 % u.cells.size]!].toArray := by
    apply Array.ext <;> simp
    intro i hi _
    match i, hi with
    | 0, _ => rfl
    | 1, _ => rfl
    | n + 2, h => omega
  have hfill : Instr.fill (fun i => some (i * 1, 1)) ((Array.range (2 * 1)).map fun j => u.cells[j % u.cells.size]!) [(0, VI a), (1, VI b)] = some #[VI a, VI b] := by
    rw [hbase]
    have := fill_set (fun i => some (i * 1, 1)) [(0, VI a), (1, VI b)] [u.cells[0 % u.cells.size]!, u.cells[1 % u.cells.size]!] (by
      intro p hp
      simp at hp
      rcases hp with rfl | rfl <;> exact ⟨rfl, by simp, rfl⟩)
    rw [this]
    rfl
  have := New.mk' w E [VI a, VI b]
  simp only [execOp, Instr.buildSlice, Sem.run_bind, run_underlying ht, Result.andThen_ok, run_sizeOf hsz', List.map_toArray, List.map_cons, List.map_nil, hρ x0 _ h0, hρ x1 _ h1, Sem.run_ite, hgt, if_false, hne, run_zero hzz, Sem.run_pure, hfill, newRow, run_newObj_alloc, OpOk]
  exact ⟨trivial, this⟩
end
def vS (l : List UInt8) : Value := .string (bs l)
/-- A number as a word, a star for one below zero. -/
def starN (n : Int) : List UInt8 := if n < 0 then [42] else Lib.decDigits n.toNat
def lineW (wd : List UInt8) (xs : List Int) : List UInt8 := xs.foldl (fun b n => b ++ (32 :: starN n)) wd
theorem lineW_nil (wd : List UInt8) : lineW wd [] = wd := rfl
theorem lineW_snoc {wd : List UInt8} {xs : List Int} {n : Int} : lineW wd (xs ++ [n]) = lineW wd xs ++ (32 :: starN n) := by simp [lineW, List.foldl_append]
theorem lineW_take {wd : List UInt8} {xs : List Int} {i : Nat} (h : i < xs.length) : lineW wd (xs.take (i + 1)) = lineW wd (xs.take i) ++ (32 :: starN xs[i]) := by rw [List.take_succ_eq_append_getElem h, lineW_snoc]
theorem star_neg {n : Int} (h : n < 0) : 32 :: starN n = [32, 42] := by unfold starN; rw [if_pos h]
theorem star_pos {n : Int} (h : ¬ n < 0) : 32 :: starN n = [32] ++ Lib.decDigits n.toNat := by unfold starN; rw [if_neg h]; rfl
theorem line_neg {wd : List UInt8} {xs : List Int} {i : Nat} (h : i < xs.length) (h0 : xs[i] < 0) : Value.string (bs (lineW wd (xs.take i) ++ [32, 42])) = .string (bs (lineW wd (xs.take (i + 1)))) := by rw [lineW_take h, star_neg h0]
theorem line_pos {wd : List UInt8} {xs : List Int} {i : Nat} (h : i < xs.length) (h0 : ¬ xs[i] < 0) : Value.string (bs (lineW wd (xs.take i) ++ ([32] ++ Lib.decDigits xs[i].toNat))) = .string (bs (lineW wd (xs.take (i + 1)))) := by rw [lineW_take h, star_pos h0]
theorem lineW_full {wd : List UInt8} {xs : List Int} {i : Nat} (h : xs.length ≤ i) : lineW wd (xs.take i) = lineW wd xs := by rw [List.take_of_length_le h]
theorem lineW_app {a b : List UInt8} : ∀ {xs : List Int}, lineW (a ++ b) xs = a ++ lineW b xs := by
  intro xs
  induction xs generalizing b with
  | nil => rfl
  | cons x r ih => show lineW (a ++ b ++ (32 :: starN x)) r = a ++ lineW (b ++ (32 :: starN x)) r; rw [List.append_assoc, ih]
theorem dec1 {n : Nat} (h : n < 10) : Lib.decDigits n = [UInt8.ofNat (48 + n)] := by rw [Lib.decDigits, dif_pos h]
theorem dec2 {n : Nat} (h : 10 ≤ n) : Lib.decDigits n = Lib.decDigits (n / 10) ++ [UInt8.ofNat (48 + n % 10)] := by rw [Lib.decDigits, dif_neg (by omega)]
theorem dec_len {n : Nat} (h : n < 100) : (Lib.decDigits n).length ≤ 2 := by
  by_cases h1 : n < 10
  · rw [dec1 h1]; simp
  · rw [dec2 (by omega), dec1 (by omega)]; simp
theorem starN_len {n : Int} (h : n < 100) : (starN n).length ≤ 2 := by
  unfold starN
  split
  · decide
  · exact dec_len (by omega)
theorem lineW_len {wd : List UInt8} : ∀ {xs : List Int}, (∀ x ∈ xs, x < 100) → (lineW wd xs).length ≤ wd.length + 3 * xs.length := by
  intro xs
  induction xs generalizing wd with
  | nil => intro _; exact Nat.le_refl _
  | cons x r ih =>
    intro h
    have h1 := ih (wd := wd ++ (32 :: starN x)) fun y hy => h y (List.mem_cons_of_mem _ hy)
    have h2 := starN_len (h x (List.mem_cons_self ..))
    have h3 : (wd ++ (32 :: starN x)).length = wd.length + (starN x).length + 1 := by simp; omega
    show (lineW (wd ++ (32 :: starN x)) r).length ≤ _
    simp only [List.length_cons]
    omega
def wMachine : List UInt8 := [109, 97, 99, 104, 105, 110, 101]
def wStart : List UInt8 := [115, 116, 97, 114, 116]
def wSend : List UInt8 := [115, 101, 110, 100]
def wWhen : List UInt8 := [119, 104, 101, 110]
def wThen : List UInt8 := [32, 116, 104, 101, 110]
def wGive : List UInt8 := [103, 105, 118, 101]
def hdL (m : Mach) : List UInt8 := lineW wMachine [m.deg, m.states, m.msgs, ((m.start.headD []).length : Int)]
def clW (c : Cl) : List UInt8 := lineW (lineW (lineW wWhen [c.1]) c.2.1 ++ wThen) [c.2.2]
theorem clW_eq (c : Cl) : clW c = lineW (lineW wWhen [c.1]) c.2.1 ++ lineW wThen [c.2.2] := lineW_app
def outW (o : List Int) : Nat → List (List UInt8)
  | 0 => []
  | i + 1 => if 0 ≤ o.getD i 0 then outW o i ++ [lineW wGive [(i : Int), o.getD i 0]] else outW o i
theorem outW_yes {o : List Int} {i : Nat} (h : i < o.length) (h0 : 0 ≤ o[i]) : outW o (i + 1) = outW o i ++ [lineW wGive [(i : Int), o[i]]] := by
  rw [outW, getD_eq h, if_pos h0]
theorem outW_no {o : List Int} {i : Nat} (h : i < o.length) (h0 : ¬ 0 ≤ o[i]) : outW o (i + 1) = outW o i := by rw [outW, getD_eq h, if_neg h0]
theorem outW_len (o : List Int) : ∀ i, (outW o i).length ≤ i := by
  intro i
  induction i with
  | zero => exact Nat.le_refl _
  | succ i ih =>
    unfold outW
    split
    · rw [List.length_append]; simp only [List.length_cons, List.length_nil]; omega
    · omega
def stA (m : Mach) (i : Nat) : List (List UInt8) := hdL m :: (m.start.take i).map (lineW wStart)
def stB (m : Mach) (i : Nat) : List (List UInt8) := stA m m.start.length ++ (m.send.take i).map (lineW wSend)
def stC (m : Mach) (i : Nat) : List (List UInt8) := stB m m.send.length ++ (m.clauses.take i).map clW
def stD (m : Mach) (i : Nat) : List (List UInt8) := stC m m.clauses.length ++ outW m.output i
section
variable {m : Mach} {i : Nat}
theorem stA_zero : stA m 0 = [hdL m] := rfl
theorem stA_succ (h : i < m.start.length) : stA m (i + 1) = stA m i ++ [lineW wStart m.start[i]] := by unfold stA; rw [List.take_succ_eq_append_getElem h, List.map_append]; rfl
theorem stB_zero : stB m 0 = stA m m.start.length := by simp [stB]
theorem stB_succ (h : i < m.send.length) : stB m (i + 1) = stB m i ++ [lineW wSend m.send[i]] := by unfold stB; rw [List.take_succ_eq_append_getElem h, List.map_append, List.append_assoc]; rfl
theorem stC_zero : stC m 0 = stB m m.send.length := by simp [stC]
theorem stC_succ (h : i < m.clauses.length) : stC m (i + 1) = stC m i ++ [clW m.clauses[i]] := by unfold stC; rw [List.take_succ_eq_append_getElem h, List.map_append, List.append_assoc]; rfl
theorem stD_zero : stD m 0 = stC m m.clauses.length := by simp [stD, outW]
theorem stD_yes (h : i < m.output.length) (h0 : 0 ≤ m.output[i]) : stD m (i + 1) = stD m i ++ [lineW wGive [(i : Int), m.output[i]]] := by unfold stD; rw [outW_yes h h0, List.append_assoc]
theorem stD_no (h : i < m.output.length) (h0 : ¬ 0 ≤ m.output[i]) : stD m (i + 1) = stD m i := by unfold stD; rw [outW_no h h0]
end
/-- Lines that are short, and not many. -/
def Sht (k : Nat) (ls : List (List UInt8)) : Prop := (∀ l ∈ ls, l.length ≤ 100) ∧ ls.length ≤ k
theorem Sht.app {j k : Nat} {a b : List (List UInt8)} (h : Sht j a) (k' : Sht k b) : Sht (j + k) (a ++ b) := ⟨fun l hl => (List.mem_append.1 hl).elim (h.1 l) (k'.1 l), by rw [List.length_append]; have := h.2; have := k'.2; omega⟩
theorem Sht.up {j k : Nat} {a : List (List UInt8)} (h : Sht j a) (hk : j ≤ k) : Sht k a := ⟨h.1, Nat.le_trans h.2 hk⟩
section
variable {m : Mach}
theorem hdL_eq (h : 0 < m.start.length) : hdL m = lineW wMachine [m.deg, m.states, m.msgs, (m.start[0].length : Int)] := by unfold hdL; rw [headD_eq h]
theorem MOk.states99 (h : MOk m) : m.states ≤ 12 := h.states.2
theorem hd_len (h : MOk m) : (hdL m).length ≤ 100 := by
  have h1 := lineW_len (wd := wMachine) (xs := [m.deg, m.states, m.msgs, ((m.start.headD []).length : Int)]) (fun x hx => by
    have e1 := h.deg; have e2 := h.states; have e3 := h.msgs; have e4 := h.head
    simp only [List.mem_cons, List.not_mem_nil, or_false] at hx
    omega)
  have : wMachine.length = 7 := rfl
  unfold hdL
  simp only [List.length_cons, List.length_nil] at h1
  omega
theorem start_x (h : MOk m) {l : List Int} (hl : l ∈ m.start) : (∀ x ∈ l, -1 ≤ x ∧ x < 100) ∧ l.length ≤ 10 := by
  obtain ⟨h1, h2⟩ := h.start l hl
  have h3 := h.head; have h4 := h.states
  exact ⟨fun x hx => by have := allR_true.1 h2 x hx; omega, by omega⟩
theorem send_x (h : MOk m) {l : List Int} (hl : l ∈ m.send) : (∀ x ∈ l, -1 ≤ x ∧ x < 100) ∧ l.length ≤ 10 := by
  obtain ⟨h1, h2⟩ := h.send l hl
  have h3 := h.msgs; have h4 := h.deg
  exact ⟨fun x hx => by have := allR_true.1 h2 x hx; omega, by omega⟩
theorem cl_x (h : MOk m) {c : Cl} (hc : c ∈ m.clauses) : (0 ≤ c.1 ∧ c.1 < 100) ∧ (0 ≤ c.2.2 ∧ c.2.2 < 100) ∧ (∀ x ∈ c.2.1, -1 ≤ x ∧ x < 100) ∧ c.2.1.length ≤ 10 := by
  obtain ⟨h1, h2, h3, h4⟩ := h.clauses c hc
  have h5 := h.states; have h6 := h.msgs; have h7 := h.deg
  exact ⟨by omega, by omega, fun x hx => by have := allR_true.1 h4 x hx; omega, by omega⟩
theorem out_x (h : MOk m) {x : Int} (hx : x ∈ m.output) : -1 ≤ x ∧ x < 100 := by have := allR_true.1 h.output x hx; omega
theorem line_len {wd : List UInt8} {l : List Int} (hw : wd.length ≤ 40) (h : (∀ x ∈ l, -1 ≤ x ∧ x < 100) ∧ l.length ≤ 10) : (lineW wd l).length ≤ 100 := by
  have := lineW_len (wd := wd) (xs := l) fun x hx => (h.1 x hx).2
  omega
theorem cl_len (h : MOk m) {c : Cl} (hc : c ∈ m.clauses) : (clW c).length ≤ 100 := by
  obtain ⟨h1, h2, h3, h4⟩ := cl_x h hc
  have e1 := lineW_len (wd := wWhen) (xs := [c.1]) (fun x hx => by simp at hx; omega)
  have e2 := lineW_len (wd := lineW wWhen [c.1]) (xs := c.2.1) fun x hx => (h3 x hx).2
  have e3 := lineW_len (wd := wThen) (xs := [c.2.2]) (fun x hx => by simp at hx; omega)
  have w1 : wWhen.length = 4 := rfl
  have w2 : wThen.length = 5 := rfl
  rw [clW_eq, List.length_append]
  simp only [List.length_cons, List.length_nil] at e1 e3
  omega
theorem stA_sh (h : MOk m) (i : Nat) : Sht 8 (stA m i) := by
  refine ⟨fun l hl => ?_, ?_⟩
  · rcases List.mem_cons.1 hl with rfl | hl
    · exact hd_len h
    · obtain ⟨x, hx, rfl⟩ := List.mem_map.1 hl
      exact line_len (by decide) (start_x h (List.mem_of_mem_take hx))
  · have := h.startLen; have := h.deg
    simp only [stA, List.length_cons, List.length_map, List.length_take]
    omega
theorem stB_sh (h : MOk m) (i : Nat) : Sht 20 (stB m i) := by
  refine (stA_sh h _).app (k := 12) ⟨fun l hl => ?_, ?_⟩
  · obtain ⟨x, hx, rfl⟩ := List.mem_map.1 hl
    exact line_len (by decide) (send_x h (List.mem_of_mem_take hx))
  · have := h.sendLen; have := h.states
    simp only [List.length_map, List.length_take]
    omega
theorem stC_sh (h : MOk m) (i : Nat) : Sht 80 (stC m i) := by
  refine (stB_sh h _).app (k := 60) ⟨fun l hl => ?_, ?_⟩
  · obtain ⟨x, hx, rfl⟩ := List.mem_map.1 hl
    exact cl_len h (List.mem_of_mem_take hx)
  · have := h.clLen
    simp only [List.length_map, List.length_take]
    omega
theorem outW_sh (h : MOk m) : ∀ i, i ≤ m.output.length → Sht 12 (outW m.output i) := by
  intro i hi
  refine ⟨?_, by have := outW_len m.output i; have := h.outLen; have := h.states; omega⟩
  induction i with
  | zero => intro l hl; cases hl
  | succ i ih =>
    intro l hl
    have hi' : i < m.output.length := by omega
    by_cases h0 : 0 ≤ m.output[i]
    · rw [outW_yes hi' h0] at hl
      rcases List.mem_append.1 hl with hl | hl
      · exact ih (by omega) l hl
      · have e := List.mem_singleton.1 hl
        subst e
        have h1 := out_x h (List.getElem_mem hi')
        have h2 := h.outLen; have h3 := h.states
        exact line_len (by decide) ⟨fun x hx => by simp at hx; omega, by simp⟩
    · rw [outW_no hi' h0] at hl; exact ih (by omega) l hl
theorem stD_sh (h : MOk m) {i : Nat} (hi : i ≤ m.output.length) : Sht 92 (stD m i) := (stC_sh h _).app (outW_sh h i hi)
end
/-- The lines, each with its end. -/
def mtext (ls : List (List UInt8)) : List UInt8 := (ls.map (· ++ [10])).flatten
theorem mtext_snoc {ls : List (List UInt8)} {l : List UInt8} : mtext (ls ++ [l]) = mtext ls ++ (l ++ [10]) := by simp [mtext]
theorem mtext_len {ls : List (List UInt8)} (h : ∀ l ∈ ls, l.length ≤ 100) : (mtext ls).length ≤ 101 * ls.length := by
  induction ls with
  | nil => exact Nat.le_refl _
  | cons x r ih =>
    have h1 := ih fun l hl => h l (List.mem_cons_of_mem _ hl)
    have h2 := h x (List.mem_cons_self ..)
    simp only [mtext, List.map_cons, List.flatten_cons, List.length_append, List.length_cons, List.length_nil] at h1 ⊢
    omega
theorem join_text : ∀ {ls : List (List UInt8)}, ls ≠ [] → Lib.join ls [10] ++ [10] = mtext ls := by
  intro ls
  induction ls with
  | nil => intro h; exact absurd rfl h
  | cons x r ih =>
    intro _
    cases r with
    | nil => simp [Lib.join, mtext, List.intercalate, List.intersperse]
    | cons y r =>
      have := ih (by simp)
      have e : Lib.join (x :: y :: r) [10] = x ++ [10] ++ Lib.join (y :: r) [10] := by simp [Lib.join, List.intercalate, List.intersperse]
      rw [e, List.append_assoc, this]
      simp [mtext]
theorem join_len {ls : List (List UInt8)} (h : Sht 92 ls) : (Lib.join ls [10]).length ≤ 140737488355328 := by
  cases ls with
  | nil => decide
  | cons x r =>
    have e := congrArg List.length (join_text (ls := x :: r) (by simp))
    have h1 := mtext_len h.1
    have h2 := h.2
    rw [List.length_append] at e
    omega

end Go.Proofs.YtdpdjbfjjlpfgaaGreatDoor
