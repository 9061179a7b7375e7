/- Contracts of what writes the text of a machine. -/
import Derived.Shelf.Lay
import Derived.Shelf.Strings.OnBuilder
import Derived.Shelf.Strconv.Itoa3
import Derived.Test.YticlopepmnlkmaaMtx
import Derived.Test.YticlopepmnlkmaaDrawY
import Derived.Test.YticlopepmnlkmaaEdges
namespace Go.Proofs.Yticlopepmnlkmaa
open Go Go.RowKit

theorem num_one {n : Int} (h : 0 ≤ n ∧ n < 10) : [UInt8.ofNat (48 + n).toNat] = Lib.decDigits n.toNat := by
  rw [dec1 (by omega)]; congr 2; omega
theorem num_two {n : Int} (h : 10 ≤ n) : Lib.decDigits (n / 10).toNat ++ [UInt8.ofNat (48 + n % 10).toNat] = Lib.decDigits n.toNat := by
  rw [dec2 (n := n.toNat) (by omega)]
  congr 1
  · congr 1; omega
  · congr 2; omega

set_option maxRecDepth 100000 in
theorem l1Num_1 (n : Int) (w : World) (hn : 0 ≤ n ∧ n < 10) :
    Fn Try.prog 30 #[VI n] w (fun v w' => v = .string (bs (Lib.decDigits n.toNat)) ∧ Ext w w') := by
  have hE := Ext.refl w
  refine Fn_of Try.func30 rfl rfl (by kernel_rfl) rfl ?_
  refine W_seq ?_
  refine W_region ?_
  refine WL_q rfl (ev_assign rfl) ?_
  refine WL_nil ?_
  refine thenE_n ?_
  refine W_seq ?_
  refine W_seq ?_
  refine W_region ?_
  refine WL_q rfl (ev_move rfl) ?_
  refine WL_q rfl (ev_lss rfl rfl) ?_
  refine WL_nil ?_
  refine thenE_n ?_
  refine W_cond rfl (fun hg4 => ?_) (fun hg4 => ?_)
  · have hp4 := of_decide_eq_true hg4
    refine W_seq ?_
    refine W_region ?_
    refine WL_q rfl (ev_move rfl) ?_
    refine WL_q rfl (ev_add rfl rfl (by omega)) ?_
    refine WL_q rfl (ev_conv (by kernel_rfl) Try.underlying5 (by kernel_rfl) rfl (wrap_b (by omega))) ?_
    refine WL_m rfl (ev_lit1 Try.underlying49 el5 (by decide) (by decide) rfl rfl) ?_
    rintro _ w8 ⟨rfl, hN8⟩
    have hz8 := hN8.size
    replace hE := hE.trans hN8.ext
    have hB8 := hN8.blk
    refine WL_q rfl (ev_convB1 Try.underlying49 (by kernel_rfl) (by kernel_rfl) rfl hB8) ?_
    refine WL_q rfl (ev_assign rfl) ?_
    refine WL_nil ?_
    refine thenE_n ?_
    refine W_ret ?_
    refine thenE_r ?_
    refine ret1 rfl rfl ?_
    exact ⟨by rw [num_one hn], hE⟩
  · have hp4 := of_decide_eq_false hg4
    exfalso; omega

set_option maxRecDepth 100000 in
theorem l1Num_2 (n : Int) (w : World) (hn : 10 ≤ n ∧ n < 100) :
    Fn Try.prog 30 #[VI n] w (fun v w' => v = .string (bs (Lib.decDigits n.toNat)) ∧ Ext w w') := by
  have hE := Ext.refl w
  refine Fn_of Try.func30 rfl rfl (by kernel_rfl) rfl ?_
  refine W_seq ?_
  refine W_region ?_
  refine WL_q rfl (ev_assign rfl) ?_
  refine WL_nil ?_
  refine thenE_n ?_
  refine W_seq ?_
  refine W_seq ?_
  refine W_region ?_
  refine WL_q rfl (ev_move rfl) ?_
  refine WL_q rfl (ev_lss rfl rfl) ?_
  refine WL_nil ?_
  refine thenE_n ?_
  refine W_cond rfl (fun hg4 => ?_) (fun hg4 => ?_)
  · have hp4 := of_decide_eq_true hg4
    exfalso; omega
  · have hp4 := of_decide_eq_false hg4
    refine W_skip ?_
    refine thenE_n ?_
    refine W_seq ?_
    refine W_drawY (X := Unit) (fun x => [(2, .string (bs (Lib.decDigits n.toNat)))]) (fun x w' => Ext w w') 99 0 0 0 0 0 0 0 0 (.h 0 (.h 1 (.h 3 (.h 4 (.h 5 (.h 6 (.b 2 (.a 7 (.h 8 (.h 9 (.h 10 .done)))) 7 (.h 8 (.a 2 (.h 9 (.h 10 .done))))))))))) mixed (by kernel_rfl) rfl (by kernel_rfl) ?_ ?_
    · intro wd3 hEd3 hzd3
      replace hE := hE.trans hEd3
      have hdl := dec_len (n := (n / 10).toNat) (by omega)
      have hSd3 := (Rg.refl : Rg 0 0 0 0 wd3 wd3)
      have hUd3 := (Rg.refl : Rg 0 0 0 0 wd3 wd3)
      refine PY_h rfl rfl (fun wq hq => ev_move rfl) ?_
      refine PY_h rfl rfl (fun wq hq => ev_quo rfl rfl (by omega) (by omega) (by omega)) ?_
      refine PY_h rfl rfl (fun wq hq => ev_move rfl) ?_
      refine PY_h rfl rfl (fun wq hq => ev_rem rfl rfl (by omega) (by omega)) ?_
      refine PY_h rfl rfl (fun wq hq => ev_add rfl rfl (by omega)) ?_
      refine PY_h rfl rfl (fun wq hq => ev_conv (by kernel_rfl) Try.underlying5 (by kernel_rfl) rfl (wrap_b (by omega))) ?_
      refine PY_b ?_ ?_
      · refine PB_m 0 0 0 0 0 0 0 0 rfl rfl (ev_call rfl (l1Num_1 _ _ (by omega))) ?_
        rintro _ w12 ⟨rfl, hE12⟩
        have hz12 := hE12.size
        replace hE := hE.trans hE12
        replace hSd3 := hSd3.trans hE12
        replace hUd3 := hUd3.trans hE12
        refine ⟨fun _ hx => ⟨hSd3.rg hx (by omega), trivial⟩, fun _ hx => ⟨hUd3.rg hx (by omega), trivial⟩, ?_⟩
        have hSd3 := (Rg.refl : Rg 0 0 0 0 w12 w12)
        have hUd3 := (Rg.refl : Rg 0 0 0 0 w12 w12)
        refine PY_a ?_
        refine PB_m 0 0 0 0 0 0 0 0 rfl rfl (ev_lit1 Try.underlying49 el5 (by decide) (by decide) rfl rfl) ?_
        rintro _ w17 ⟨rfl, hN17⟩
        have hz17 := hN17.size
        replace hE := hE.trans hN17.ext
        replace hSd3 := hSd3.trans hN17.ext
        replace hUd3 := hUd3.trans hN17.ext
        have hB17 := hN17.blk
        refine ⟨fun _ hx => ⟨hSd3.rg hx (by omega), trivial⟩, fun _ hx => ⟨hUd3.rg hx (by omega), trivial⟩, ?_⟩
        have hSd3 := (Rg.refl : Rg 0 0 0 0 w17 w17)
        have hUd3 := (Rg.refl : Rg 0 0 0 0 w17 w17)
        refine PY_h rfl rfl (fun wq hq => ev_convB1 Try.underlying49 (by kernel_rfl) (by kernel_rfl) rfl (hB17.rg hq.1 (by omega))) ?_
        refine PY_h rfl rfl (fun wq hq => ev_addS rfl rfl (by (try simp only [List.length_append, List.length_cons, List.length_nil]); omega)) ?_
        refine PY_h rfl rfl (fun wq hq => ev_assign rfl) ?_
        exact PY_nil 11 () rfl ⟨lkV rfl (congrArg (fun l => Value.string (bs l)) (num_two hn.1)), trivial⟩ rfl hE
      · refine PB_m 0 0 0 0 0 0 0 0 rfl rfl (ev_lit1 Try.underlying49 el5 (by decide) (by decide) rfl rfl) ?_
        rintro _ w17 ⟨rfl, hN17⟩
        have hz17 := hN17.size
        replace hE := hE.trans hN17.ext
        replace hSd3 := hSd3.trans hN17.ext
        replace hUd3 := hUd3.trans hN17.ext
        have hB17 := hN17.blk
        refine ⟨fun _ hx => ⟨hSd3.rg hx (by omega), trivial⟩, fun _ hx => ⟨hUd3.rg hx (by omega), trivial⟩, ?_⟩
        have hSd3 := (Rg.refl : Rg 0 0 0 0 w17 w17)
        have hUd3 := (Rg.refl : Rg 0 0 0 0 w17 w17)
        refine PY_h rfl rfl (fun wq hq => ev_convB1 Try.underlying49 (by kernel_rfl) (by kernel_rfl) rfl (hB17.rg hq.1 (by omega))) ?_
        refine PY_a ?_
        refine PB_m 0 0 0 0 0 0 0 0 rfl rfl (ev_call rfl (l1Num_1 _ _ (by omega))) ?_
        rintro _ w12 ⟨rfl, hE12⟩
        have hz12 := hE12.size
        replace hE := hE.trans hE12
        replace hSd3 := hSd3.trans hE12
        replace hUd3 := hUd3.trans hE12
        replace hB17 := hB17.ext hE12
        refine ⟨fun _ hx => ⟨hSd3.rg hx (by omega), trivial⟩, fun _ hx => ⟨hUd3.rg hx (by omega), trivial⟩, ?_⟩
        have hSd3 := (Rg.refl : Rg 0 0 0 0 w12 w12)
        have hUd3 := (Rg.refl : Rg 0 0 0 0 w12 w12)
        refine PY_h rfl rfl (fun wq hq => ev_addS rfl rfl (by (try simp only [List.length_append, List.length_cons, List.length_nil]); omega)) ?_
        refine PY_h rfl rfl (fun wq hq => ev_assign rfl) ?_
        exact PY_nil 11 () rfl ⟨lkV rfl (congrArg (fun l => Value.string (bs l)) (num_two hn.1)), trivial⟩ rfl hE
    rintro _ wt3 hE
    dsimp only [List.cons_append, List.nil_append]
    refine thenE_n ?_
    refine W_ret ?_
    refine ret1 rfl rfl ?_
    exact ⟨rfl, hE⟩

theorem l1Num_spec (n : Int) (w : World) (hn : 0 ≤ n ∧ n < 100) : Fn Try.prog 30 #[VI n] w (fun v w' => v = .string (bs (Lib.decDigits n.toNat)) ∧ Ext w w') := by
  by_cases h : n < 10
  · exact l1Num_1 n w ⟨hn.1, h⟩
  · exact l1Num_2 n w ⟨by omega, hn.2⟩

end Go.Proofs.Yticlopepmnlkmaa
