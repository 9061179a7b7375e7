/- Both lines are readers of the text of a valid machine; what a parser hands back. -/
import Derived.Test.YtdpdjbfjjlpfgaaGreatDoorPth2
namespace Go.Proofs.YtdpdjbfjjlpfgaaGreatDoor
open Go Go.RowKit

theorem dec_list {n : Nat} (h : n < 100) : (n < 10 ∧ Lib.decDigits n = [UInt8.ofNat (48 + n)]) ∨ (10 ≤ n ∧ Lib.decDigits n = [UInt8.ofNat (48 + n / 10), UInt8.ofNat (48 + n % 10)]) := by
  by_cases h1 : n < 10
  · exact .inl ⟨h1, dec1 h1⟩
  · exact .inr ⟨by omega, by rw [dec2 (by omega), dec1 (by omega)]; rfl⟩
theorem atoi_dec {n : Nat} (h : n < 100) : Lib.atoi (Lib.decDigits n) = some (n : Int) := by
  rcases dec_list h with ⟨h1, e⟩ | ⟨h1, e⟩
  · rw [e]
    have : ∀ a : Fin 10, Lib.atoi [UInt8.ofNat (48 + a.1)] = some (a.1 : Int) := by decide
    exact this ⟨n, h1⟩
  · rw [e]
    have : ∀ a b : Fin 10, Lib.atoi [UInt8.ofNat (48 + a.1), UInt8.ofNat (48 + b.1)] = some ((a.1 * 10 + b.1 : Nat) : Int) := by decide
    rw [this ⟨n / 10, by omega⟩ ⟨n % 10, by omega⟩]
    congr 2
    show n / 10 * 10 + n % 10 = n
    omega
theorem rdI_dec {n : Nat} (h : n < 100) : rdI (Lib.decDigits n) = some (n : Int) := by
  refine rdI_yes ⟨List.length_pos_iff.2 (dec_ne h), by have := dec_len h; omega⟩ (atoi_dec h) (by omega) ?_
  unfold Lib.itoa
  rw [if_neg (by omega)]; rfl
theorem rdS_dec {n : Nat} (h : n < 100) : rdS (Lib.decDigits n) = (n : Int) := by
  rcases dec_list h with ⟨h1, e⟩ | ⟨h1, e⟩
  · rw [e]
    have : ∀ a : Fin 10, rdS [UInt8.ofNat (48 + a.1)] = (a.1 : Int) := by decide
    exact this ⟨n, h1⟩
  · rw [e]
    have : ∀ a b : Fin 10, 0 < a.1 → rdS [UInt8.ofNat (48 + a.1), UInt8.ofNat (48 + b.1)] = ((a.1 * 10 + b.1 : Nat) : Int) := by decide
    rw [this ⟨n / 10, by omega⟩ ⟨n % 10, by omega⟩ (show 0 < n / 10 by omega)]
    show ((n / 10 * 10 + n % 10 : Nat) : Int) = n
    omega
theorem dec_star {n : Nat} (h : n < 100) : Lib.decDigits n ≠ [42] := fun e => by
  have : (42 : UInt8) ∈ Lib.decDigits n := by rw [e]; exact List.mem_cons_self ..
  exact (dec_mem h this).2.2.1 rfl
theorem gI_starN (n : Int) (h : -1 ≤ n) (h2 : n < 100) : gI (starN n) = some n := by
  unfold starN
  split
  · rw [gI_star rfl]; congr 1; omega
  · rw [gI_num (dec_star (by omega)) (rdI_dec (by omega))]; congr 1; omega
theorem rdS_starN (n : Int) (h : -1 ≤ n) (h2 : n < 100) : rdS (starN n) = n := by
  unfold starN
  split
  · rw [rdS_star]; omega
  · rw [rdS_dec (by omega)]; omega
theorem gS_starN (n : Int) (h : -1 ≤ n) (h2 : n < 100) : gS (starN n) = some n := by
  rw [gS_some, rdS_starN n h h2]
  rw [rdS_starN n h h2]
  rintro ⟨h3, h4⟩
  exact h4 (by unfold starN; rw [if_pos h3])
section
variable {wd l : List UInt8} {xs : List Int}
theorem star_no_thn (h : ∀ x ∈ xs, -1 ≤ x ∧ x < 100) : wThn ∉ xs.map starN := fun hm => by
  obtain ⟨x, hx, e⟩ := List.mem_map.1 hm
  exact starN_thn (h x hx).2 e
theorem wH_line (hw : (32 : UInt8) ∉ wd) (h : ∀ x ∈ xs, -1 ≤ x ∧ x < 100) : wH (lineW wd xs) = wd := by unfold wH; rw [line_words hw fun x hx => (h x hx).2]; rfl
theorem wT_line (hw : (32 : UInt8) ∉ wd) (h : ∀ x ∈ xs, -1 ≤ x ∧ x < 100) : wT (lineW wd xs) = xs.map starN := by unfold wT; rw [line_words hw fun x hx => (h x hx).2]; rfl
theorem thS_line (hw : (32 : UInt8) ∉ wd) (h1 : wd ≠ wThn) (h : ∀ x ∈ xs, -1 ≤ x ∧ x < 100) : thS (lineW wd xs) = xs.length + 1 := by
  unfold thS
  rw [line_words hw fun x hx => (h x hx).2, thU_none (fun hm => ?_) (Nat.le_refl _)]
  · simp [wordsOf]
  · rcases List.mem_cons.1 hm with e | hm
    · exact h1 e.symm
    · exact star_no_thn h hm
theorem wS_line (hw : (32 : UInt8) ∉ wd) (h1 : wd ≠ wThn) (h : ∀ x ∈ xs, -1 ≤ x ∧ x < 100) : wS (lineW wd xs) = xs.map starN := by
  unfold wS
  rw [thS_line hw h1 h, line_words hw fun x hx => (h x hx).2, List.take_of_length_le (by simp [wordsOf])]
  rfl
theorem numI (h : ∀ x ∈ xs, -1 ≤ x ∧ x < 100) : xs = numsOf gI (xs.map starN) ∧ okNums gI (xs.map starN) := ⟨(nums_star gI_starN h).1.symm, (nums_star gI_starN h).2⟩
theorem numS (h : ∀ x ∈ xs, -1 ≤ x ∧ x < 100) : xs = numsOf gS (xs.map starN) ∧ okNums gS (xs.map starN) := ⟨(nums_star gS_starN h).1.symm, (nums_star gS_starN h).2⟩
end
theorem hd_bd {m : Mach} (hm : MOk m) : ∀ x ∈ [m.deg, m.states, m.msgs, ((m.start.headD []).length : Int)], -1 ≤ x ∧ x < 100 := by
  intro x hx
  have e1 := hm.deg; have e2 := hm.states; have e3 := hm.msgs; have e4 := hm.head
  simp only [List.mem_cons, List.not_mem_nil, or_false] at hx
  omega
theorem give_bd {i x : Int} (h0 : 0 ≤ i) (h1 : i < 100) (h2 : 0 ≤ x) (h3 : x < 100) : ∀ y ∈ [i, x], -1 ≤ y ∧ y < 100 := by
  intro y hy
  simp only [List.mem_cons, List.not_mem_nil, or_false] at hy
  omega
theorem readerI : Reader lineI := by
  refine ⟨fun m hm => ?_, fun k M r h => ?_, fun k M r h => ?_, fun k M m c hm hc => ?_, fun k M i x h0 h1 h2 h3 h4 => ?_⟩
  · have hb := hd_bd hm
    unfold hdL
    rw [lineI_mach (ns := [m.deg, m.states, m.msgs, ((m.start.headD []).length : Int)]) (by rw [wH_line (by decide) hb]; decide) (by rw [wT_line (by decide) hb]; exact (numI hb).2) (by rw [wT_line (by decide) hb]; exact (numI hb).1) (wH_line (by decide) hb) rfl]
    have hs := hm.states
    have e : outI m.states = List.replicate m.states.toNat (-1) := by unfold outI; congr 1; omega
    show some (hdM zeroM _ (outI m.states)) = _
    rw [e]; rfl
  · rw [lineI_start (ns := r) (by rw [wH_line (by decide) h]; decide) (by rw [wT_line (by decide) h]; exact (numI h).2) (by rw [wT_line (by decide) h]; exact (numI h).1) (fun q => by rw [wH_line (by decide) h] at q; exact absurd q.1 (by decide)) (wH_line (by decide) h)]
  · rw [lineI_send (ns := r) (by rw [wH_line (by decide) h]; decide) (by rw [wT_line (by decide) h]; exact (numI h).2) (by rw [wT_line (by decide) h]; exact (numI h).1) (fun q => by rw [wH_line (by decide) h] at q; exact absurd q.1 (by decide)) (by rw [wH_line (by decide) h]; decide) (wH_line (by decide) h)]
  · obtain ⟨h1, h2, h3, h4⟩ := cl_x hm hc
    have hw := cl_words hm hc
    have e1 : wH (clW c) = wWhen := by unfold wH; rw [hw]; rfl
    have hxs : ∀ x ∈ c.1 :: (c.2.1 ++ [c.2.2]), -1 ≤ x ∧ x < 100 := by
      intro x hx
      rcases List.mem_cons.1 hx with rfl | hx
      · omega
      · rcases List.mem_append.1 hx with hx | hx
        · exact h3 x hx
        · have := List.mem_singleton.1 hx; omega
    have e2 : wT (clW c) = (c.1 :: c.2.1).map starN ++ [wThn, starN c.2.2] := by unfold wT; rw [hw]; simp
    have hl : (wT (clW c)).length = c.2.1.length + 3 := by rw [e2]; simp
    have e3 : idxW (wT (clW c)) wThn = ((c.2.1.length + 1 : Nat) : Int) := by
      rcases idxW_cases (wT (clW c)) wThn with ⟨_, hn⟩ | ⟨k, hk, hk1, hk2, hk3⟩
      · exact absurd (by rw [e2]; simp) hn
      · rw [hk]
        congr 1
        have hno : wThn ∉ (c.1 :: c.2.1).map starN := star_no_thn fun x hx => hxs x (by rcases List.mem_cons.1 hx with rfl | hx; exact List.mem_cons_self ..; exact List.mem_cons_of_mem _ (List.mem_append_left _ hx))
        have hlm : ((c.1 :: c.2.1).map starN).length = c.2.1.length + 1 := by simp
        rcases Nat.lt_trichotomy k (c.2.1.length + 1) with hlt | heq | hgt
        · exfalso
          apply hno
          rw [← hk2]
          have : (wT (clW c))[k] = ((c.1 :: c.2.1).map starN)[k]'(by omega) := by
            have := List.getElem_of_eq e2 hk1
            rw [this, List.getElem_append_left (by omega)]
          rw [this]; exact List.getElem_mem _
        · exact heq
        · exfalso
          apply hk3
          rw [e2, List.take_append, hlm]
          apply List.mem_append_right
          rw [show k - (c.2.1.length + 1) = (k - (c.2.1.length + 2)) + 1 by omega, List.take_succ_cons]
          exact List.mem_cons_self ..
    have e4 : cwds (wT (clW c)) (idxW (wT (clW c)) wThn).toNat = (c.1 :: (c.2.1 ++ [c.2.2])).map starN := by
      rw [e3, Int.toNat_natCast, e2]
      unfold cwds
      have hlm : ((c.1 :: c.2.1).map starN).length = c.2.1.length + 1 := by simp
      rw [List.take_append_of_le_length (by omega), List.take_of_length_le (by omega), List.drop_append, List.drop_eq_nil_of_le (by omega), hlm, show c.2.1.length + 1 + 1 - (c.2.1.length + 1) = 1 by omega]
      simp
    have e5 := clauseI_yes (ws := wT (clW c)) (by rw [e3]; omega) (by rw [e3, hl]; omega) (by rw [e4]; exact (numI hxs).2)
    rw [e4, ← (numI hxs).1] at e5
    have e6 : clOf (c.1 :: (c.2.1 ++ [c.2.2])) = c := by
      unfold clOf
      simp [List.getD]
    rw [e6] at e5
    rw [lineI_when e1 e5]; rfl
  · have hb := give_bd h0 h2 h3 h4
    rw [lineI_give (ns := [i, x]) (by rw [wH_line (by decide) hb]; decide) (by rw [wT_line (by decide) hb]; exact (numI hb).2) (by rw [wT_line (by decide) hb]; exact (numI hb).1) (fun q => by rw [wH_line (by decide) hb] at q; exact absurd q.1 (by decide)) (by rw [wH_line (by decide) hb]; decide) (by rw [wH_line (by decide) hb]; decide) ⟨wH_line (by decide) hb, rfl, h0, by show i ≤ _; omega⟩]
    rfl
theorem readerS : Reader lineS := by
  refine ⟨fun m hm => ?_, fun k M r h => ?_, fun k M r h => ?_, fun k M m c hm hc => ?_, fun k M i x h0 h1 h2 h3 h4 => ?_⟩
  · have hb := hd_bd hm
    have hs := hm.states
    unfold hdL
    rw [lineS_mach (ns := [m.deg, m.states, m.msgs, ((m.start.headD []).length : Int)]) (by rw [wS_line (by decide) (by decide) hb]; exact (numS hb).2) (by rw [wS_line (by decide) (by decide) hb]; exact (numS hb).1) ⟨wH_line (by decide) hb, rfl, rfl⟩ ⟨by show 1 ≤ m.states; omega, by show m.states ≤ 12; omega⟩]
    rfl
  · rw [lineS_start (ns := r) (by rw [wS_line (by decide) (by decide) h]; exact (numS h).2) (by rw [wS_line (by decide) (by decide) h]; exact (numS h).1) (fun q => by rw [wH_line (by decide) h] at q; exact absurd q.1 (by decide)) (wH_line (by decide) h)]
  · rw [lineS_send (ns := r) (by rw [wS_line (by decide) (by decide) h]; exact (numS h).2) (by rw [wS_line (by decide) (by decide) h]; exact (numS h).1) (fun q => by rw [wH_line (by decide) h] at q; exact absurd q.1 (by decide)) (by rw [wH_line (by decide) h]; decide) (wH_line (by decide) h)]
  · obtain ⟨h1, h2, h3, h4⟩ := cl_x hm hc
    have hw := cl_words hm hc
    have e1 : wH (clW c) = wWhen := by unfold wH; rw [hw]; rfl
    have hxs : ∀ x ∈ c.1 :: c.2.1, -1 ≤ x ∧ x < 100 := by
      intro x hx
      rcases List.mem_cons.1 hx with rfl | hx
      · omega
      · exact h3 x hx
    have e2 : spl 32 (clW c) = (wWhen :: (c.1 :: c.2.1).map starN) ++ [wThn, starN c.2.2] := by rw [hw]; simp
    have e3 : thS (clW c) = c.2.1.length + 2 := by
      unfold thS
      rw [e2, thU_two (starN_thn h2.2)]; simp
    have e4 : wS (clW c) = (c.1 :: c.2.1).map starN := by
      unfold wS
      rw [e3, e2, List.take_append_of_le_length (by simp), List.take_of_length_le (by simp)]
      rfl
    have hl : (spl 32 (clW c)).length = c.2.1.length + 4 := by rw [e2]; simp
    rw [lineS_when (ns := c.1 :: c.2.1) (by rw [e4]; exact (numS hxs).2) (by rw [e4]; exact (numS hxs).1) (fun q => by rw [e1] at q; exact absurd q.1 (by decide)) (by rw [e1]; decide) (by rw [e1]; decide) ⟨e1, by simp, by rw [e3, hl]⟩]
    have e5 : (spl 32 (clW c)).getD (thS (clW c) + 1) [] = starN c.2.2 := by
      rw [e3, e2, List.getD, List.getElem?_append_right (by simp)]
      simp
    rw [e5, rdS_starN _ (by omega) h2.2]
    rfl
  · have hb := give_bd h0 h2 h3 h4
    rw [lineS_give (ns := [i, x]) (by rw [wS_line (by decide) (by decide) hb]; exact (numS hb).2) (by rw [wS_line (by decide) (by decide) hb]; exact (numS hb).1) (fun q => by rw [wH_line (by decide) hb] at q; exact absurd q.1 (by decide)) (by rw [wH_line (by decide) hb]; decide) (by rw [wH_line (by decide) hb]; decide) (fun q => by rw [wH_line (by decide) hb] at q; exact absurd q.1 (by decide)) ⟨wH_line (by decide) hb, rfl, h0, by show i ≤ _; omega⟩]
    rfl

end Go.Proofs.YtdpdjbfjjlpfgaaGreatDoor
