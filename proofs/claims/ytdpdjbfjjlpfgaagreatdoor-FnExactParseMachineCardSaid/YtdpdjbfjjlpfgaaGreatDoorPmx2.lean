/- What the parsers compute, and that each gives back the machine whose text it is handed. -/
import Derived.Test.YtdpdjbfjjlpfgaaGreatDoorPmx
namespace Go.Proofs.YtdpdjbfjjlpfgaaGreatDoor
open Go Go.RowKit

def wThn : List UInt8 := [116, 104, 101, 110]
theorem lineW_flat {wd : List UInt8} {xs : List Int} : lineW wd xs = wd ++ (xs.map fun n => 32 :: starN n).flatten := by
  induction xs generalizing wd with
  | nil => simp [lineW]
  | cons x r ih =>
    show lineW (wd ++ (32 :: starN x)) r = _
    rw [ih]; simp
theorem clW_flat (c : Cl) : clW c = wWhen ++ ((starN c.1 :: (c.2.1.map starN ++ [wThn, starN c.2.2])).map fun x => 32 :: x).flatten := by
  unfold clW
  rw [lineW_flat, lineW_flat, lineW_flat]
  have e : wThen = 32 :: wThn := rfl
  rw [e]
  simp [List.map_map, Function.comp_def]
theorem spl_words {c : UInt8} {w : List UInt8} {r : List (List UInt8)} (h : ∀ x ∈ w :: r, c ∉ x) : spl c (w ++ (r.map fun x => c :: x).flatten) = w :: r := by
  induction r generalizing w with
  | nil => simp only [List.map_nil, List.flatten_nil, List.append_nil]; exact spl_one (h w (List.mem_cons_self ..))
  | cons x r ih =>
    simp only [List.map_cons, List.flatten_cons, List.cons_append]
    rw [spl_app (h w (List.mem_cons_self ..)), ih fun y hy => h y (List.mem_cons_of_mem _ hy)]
theorem dig_ne {n : Nat} (h : n < 10) : UInt8.ofNat (48 + n) ≠ 32 ∧ UInt8.ofNat (48 + n) ≠ 10 ∧ UInt8.ofNat (48 + n) ≠ 42 ∧ UInt8.ofNat (48 + n) ≠ 116 := by
  have : ∀ n : Fin 10, UInt8.ofNat (48 + n.1) ≠ 32 ∧ UInt8.ofNat (48 + n.1) ≠ 10 ∧ UInt8.ofNat (48 + n.1) ≠ 42 ∧ UInt8.ofNat (48 + n.1) ≠ 116 := by decide
  exact this ⟨n, h⟩
theorem dec_mem {n : Nat} (h : n < 100) {b : UInt8} (hb : b ∈ Lib.decDigits n) : b ≠ 32 ∧ b ≠ 10 ∧ b ≠ 42 ∧ b ≠ 116 := by
  by_cases h1 : n < 10
  · rw [dec1 h1] at hb
    have := List.mem_singleton.1 hb; subst this
    exact dig_ne h1
  · rw [dec2 (by omega), dec1 (by omega)] at hb
    simp only [List.cons_append, List.nil_append, List.mem_cons, List.not_mem_nil, or_false] at hb
    rcases hb with rfl | rfl
    · exact dig_ne (by omega)
    · exact dig_ne (by omega)
theorem dec_ne {n : Nat} (h : n < 100) : Lib.decDigits n ≠ [] := by
  by_cases h1 : n < 10
  · rw [dec1 h1]; simp
  · rw [dec2 (by omega)]; simp
theorem starN_mem {n : Int} (h : n < 100) {b : UInt8} (hb : b ∈ starN n) : b ≠ 32 ∧ b ≠ 10 ∧ b ≠ 116 := by
  unfold starN at hb
  split at hb
  · have := List.mem_singleton.1 hb; subst this; decide
  · have := dec_mem (by omega) hb; exact ⟨this.1, this.2.1, this.2.2.2⟩
theorem starN_thn {n : Int} (h : n < 100) : starN n ≠ wThn := by
  intro e
  have : (116 : UInt8) ∈ starN n := by rw [e]; decide
  exact (starN_mem h this).2.2 rfl
def wordsOf (wd : List UInt8) (xs : List Int) : List (List UInt8) := wd :: xs.map starN
theorem line_words {wd : List UInt8} {xs : List Int} (hw : (32 : UInt8) ∉ wd) (h : ∀ x ∈ xs, x < 100) : spl 32 (lineW wd xs) = wordsOf wd xs := by
  have e : lineW wd xs = wd ++ ((xs.map starN).map fun x => 32 :: x).flatten := by rw [lineW_flat, List.map_map]; rfl
  rw [e]
  refine spl_words fun x hx => ?_
  rcases List.mem_cons.1 hx with rfl | hx
  · exact hw
  · obtain ⟨n, hn, rfl⟩ := List.mem_map.1 hx
    exact fun hm => (starN_mem (h n hn) hm).1 rfl
theorem line_ten {wd : List UInt8} {xs : List Int} (hw : (10 : UInt8) ∉ wd) (h : ∀ x ∈ xs, x < 100) : (10 : UInt8) ∉ lineW wd xs := by
  rw [lineW_flat]
  intro hm
  rcases List.mem_append.1 hm with hm | hm
  · exact hw hm
  · obtain ⟨l, hl, hm⟩ := List.mem_flatten.1 hm
    obtain ⟨n, hn, rfl⟩ := List.mem_map.1 hl
    rcases List.mem_cons.1 hm with e | hm
    · cases e
    · exact (starN_mem (h n hn) hm).2.1 rfl
theorem cl_words {m : Mach} (hm : MOk m) {c : Cl} (hc : c ∈ m.clauses) : spl 32 (clW c) = wWhen :: (starN c.1 :: (c.2.1.map starN ++ [wThn, starN c.2.2])) := by
  obtain ⟨h1, h2, h3, h4⟩ := cl_x hm hc
  rw [clW_flat]
  refine spl_words fun x hx => ?_
  simp only [List.mem_cons, List.mem_append, List.mem_map, List.not_mem_nil, or_false] at hx
  rcases hx with rfl | rfl | ⟨n, hn, rfl⟩ | rfl | rfl
  · decide
  · exact fun hm => (starN_mem h1.2 hm).1 rfl
  · exact fun hm => (starN_mem (h3 n hn).2 hm).1 rfl
  · decide
  · exact fun hm => (starN_mem h2.2 hm).1 rfl
theorem cl_ten {m : Mach} (hm : MOk m) {c : Cl} (hc : c ∈ m.clauses) : (10 : UInt8) ∉ clW c := by
  obtain ⟨h1, h2, h3, h4⟩ := cl_x hm hc
  rw [clW_eq]
  intro hx
  rcases List.mem_append.1 hx with hx | hx
  · refine line_ten (wd := lineW wWhen [c.1]) ?_ (fun x hx => (h3 x hx).2) hx
    exact line_ten (by decide) (fun x hx => by simp at hx; omega)
  · exact line_ten (by decide) (fun x hx => by simp at hx; omega) hx
theorem hd_words {m : Mach} (hm : MOk m) : spl 32 (hdL m) = wordsOf wMachine [m.deg, m.states, m.msgs, ((m.start.headD []).length : Int)] := by
  refine line_words (by decide) fun x hx => ?_
  have e1 := hm.deg; have e2 := hm.states; have e3 := hm.msgs; have e4 := hm.head
  simp only [List.mem_cons, List.not_mem_nil, or_false] at hx
  omega
theorem hd_ten {m : Mach} (hm : MOk m) : (10 : UInt8) ∉ hdL m := by
  refine line_ten (by decide) fun x hx => ?_
  have e1 := hm.deg; have e2 := hm.states; have e3 := hm.msgs; have e4 := hm.head
  simp only [List.mem_cons, List.not_mem_nil, or_false] at hx
  omega
theorem out_ten {m : Mach} (hm : MOk m) : ∀ i, i ≤ m.output.length → ∀ l ∈ outW m.output i, (10 : UInt8) ∉ l := by
  intro i
  induction i with
  | zero => intro _ l hl; cases hl
  | succ i ih =>
    intro hi l hl
    have hi' : i < m.output.length := by omega
    by_cases h0 : 0 ≤ m.output[i]
    · rw [outW_yes hi' h0] at hl
      rcases List.mem_append.1 hl with hl | hl
      · exact ih (by omega) l hl
      · have e := List.mem_singleton.1 hl
        subst e
        have h1 := out_x hm (List.getElem_mem hi'); have h2 := hm.outLen; have h3 := hm.states
        exact line_ten (by decide) fun x hx => by simp at hx; omega
    · rw [outW_no hi' h0] at hl; exact ih (by omega) l hl
theorem st_ten {m : Mach} (hm : MOk m) : ∀ l ∈ stD m m.output.length, (10 : UInt8) ∉ l := by
  intro l hl
  simp only [stD, stC, stB, stA, List.mem_append, List.mem_cons, List.mem_map] at hl
  rcases hl with (((rfl | ⟨x, hx, rfl⟩) | ⟨x, hx, rfl⟩) | ⟨x, hx, rfl⟩) | hl
  · exact hd_ten hm
  · exact line_ten (by decide) fun y hy => ((start_x hm (List.mem_of_mem_take hx)).1 y hy).2
  · exact line_ten (by decide) fun y hy => ((send_x hm (List.mem_of_mem_take hx)).1 y hy).2
  · exact cl_ten hm (List.mem_of_mem_take hx)
  · exact out_ten hm _ (Nat.le_refl _) l hl
/-- A reader of machines: how a number is read (a word in, or none), and what a line does to a machine. -/
def zeroM : Mach := ⟨0, 0, 0, [], [], [], []⟩
def foldM (f : Nat → Mach → List UInt8 → Option Mach) (ls : List (List UInt8)) : Nat → Option Mach
  | 0 => some zeroM
  | i + 1 => match foldM f ls i, ls[i]? with
    | some M, some l => f i M l
    | _, _ => none
/-- The numbers of words, by a reader of one word. -/
def numsOf (g : List UInt8 → Option Int) (ws : List (List UInt8)) : List Int := ws.map fun w => (g w).getD 0
def okNums (g : List UInt8 → Option Int) (ws : List (List UInt8)) : Prop := ∀ w ∈ ws, g w ≠ none
theorem nums_star {g : List UInt8 → Option Int} (hg : ∀ n : Int, -1 ≤ n → n < 100 → g (starN n) = some n) {xs : List Int} (h : ∀ x ∈ xs, -1 ≤ x ∧ x < 100) : numsOf g (xs.map starN) = xs ∧ okNums g (xs.map starN) := by
  refine ⟨?_, fun w hw => ?_⟩
  · unfold numsOf
    rw [List.map_map]
    conv => rhs; rw [← List.map_id xs]
    exact List.map_congr_left fun x hx => by simp [Function.comp_def, hg x (h x hx).1 (h x hx).2]
  · obtain ⟨x, hx, rfl⟩ := List.mem_map.1 hw
    rw [hg x (h x hx).1 (h x hx).2]; simp

end Go.Proofs.YtdpdjbfjjlpfgaaGreatDoor
